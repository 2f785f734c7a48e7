/- An append of zeros to nothing (slices.Grow): the operation's law. slices.Grow and slices.Concat at entries. The sums of effects, of the program (printed by gen_in.py from xeffsi.in). Slices of bools in memory; the laws' helpers over them. The right blocks of a tree, of the program (printed by gen_in.py from xright.in). Proofs of values: two values have two roots; the proof of a store leads to its root. The plain law: no program is in sight here. The law FnAskBlock: the walk (printed by gen_in.py from xlawfaskb.in). -/
import Derived.Test.YtefdhlfljpppfaaGreatMem
import Derived.Test.YtefdhlfljpppfaaGreatPut
import Derived.Test.YtefdhlfljpppfaaGreatEffS
import Derived.Test.YtefdhlfljpppfaaGreatGgrow
import Derived.Test.YtefdhlfljpppfaaGreatSums
import Derived.Test.YtefdhlfljpppfaaGreatGtree
import Derived.Test.YtefdhlfljpppfaaGreatIntS
import Derived.Test.YtefdhlfljpppfaaGreatProof
import Derived.Test.YtefdhlfljpppfaaGreatRootS
import Derived.Test.YtefdhlfljpppfaaGreatDrawTa
import Derived.Test.YtefdhlfljpppfaaGreatDiffs
namespace Go.Proofs.YtefdhlfljpppfaaGreat
open Go.RowKit
set_option linter.unusedVariables false
set_option linter.unusedSimpArgs false

theorem run_append_nilZ {P : Program} {w : World} (t ti ty e : TypeId) (i : TypeInfo) (z : Value) (k : IntKind) (ht : P.underlying t = some (.slice e)) (hti : P.underlying ti = some (.int k)) (hi : P.info? e = some i) (hz : i.zero = some z) (hz2 : 0 < i.size)
    (n : Nat) (h0 : 0 < n) (h63 : (n : Int) ≤ 1099511627776) (h48 : n * i.bytes ≤ 281474976710656) :
    (Builtin.append_ #[t, ti] ty #[.slice none 0 0, .int .i64 (n : Int)]).run P w =
      .ok (.slice (some ⟨w.heap.size, 0, none⟩) n (grownCap w n 0 e)) (w.drew.alloc (.cells (Builtin.zeroCells z.cells n ++ Builtin.zeroCells z.cells (grownCap w n 0 e - n)) e)) := by
  have hn : n ≠ 0 := by omega
  have hw : IntKind.i64.wrap (n : Int) = (n : Int) := by rw [IntKind.wrap_i64, Int.emod_eq_of_lt (by omega) (by omega)]; omega
  have hneg : ¬ ((n : Int) < 0) := by omega
  have h63' : ¬ (9223372036854775807 < (n : Int)) := by omega
  have h48'' : ¬ (281474976710656 < (n : Int) * (i.bytes : Int)) := by
    have h := Int.ofNat_le.2 h48
    rw [Int.natCast_mul] at h
    exact Int.not_lt.2 h
  have h48' : ¬ (281474976710656 < Builtin.nextslicecap n 0 * i.bytes) := by rw [nextslicecap_zero h0]; omega
  have hs : ¬ (i.size = 0) := by omega
  have hs2 : ¬ (n * i.size = 0) := Nat.mul_ne_zero hn hs
  simp [Builtin.append_, run_underlying ht, run_underlying hti, sizeOf, typeInfo, zeroValue, hi, hz, asInt, asIntOf, hw, hneg, hn, h63', h48', h48'', hs, hs2, Question.forced, run_firstCells_none, newRow, grownCap]
theorem wpList_appZ {P : Program} {w : World} {ops : Array Oper} {rest : List Oper} {o : Oper} {a : Go.Act} {Q : Exit → Go.Act → World → Prop} (hgd : o.guard = none) (s x : Operand) (t ti : TypeId)
    (ho : o.op = .call { callee := .builtin .append, args := #[s, x], argTypes := #[t, ti] }) (k : IntKind) (hti : P.underlying ti = some (.int k))
    {e : TypeId} {size bytes base n : Nat} (hel : El P t e size bytes) (hs : a.eval s = .slice none 0 0) (hx : a.eval x = .int .i64 (n : Int))
    (h0 : 0 < n) (h63 : (n : Int) ≤ 1099511627776) (hbytes : n * bytes ≤ 140737488355328) (hbase : base ≤ w.heap.size)
    (h : ∀ g c' w', g = w.heap.size → n ≤ c' → w'.ownsRow base e size (.slice (some ⟨g, 0, none⟩) 0 c') 0 [] → Below w.heap.size w w' → wpList P ops Q rest (a.put o.dst (.slice (some ⟨g, 0, none⟩) n c')) w') : wpList P ops Q (o :: rest) a w :=
  wpList_plain hgd fun _ hK => by
    obtain ⟨ht, i, z, hi, hz, hsz, hby, hzs, hpos⟩ := hel
    have hrun := run_append_nilZ (P := P) (w := w) t ti o.type e i z k ht hti hi hz (by omega) n h0 h63 (by rw [hby]; omega)
    have hge := grownCap_ge w n 0 e
    have hcm := grownCap_le_maxLen w n 0 e (by simp only [maxLen]; omega)
    unfold Oper.wp execOp
    simp only [ho, resolve, invoke, builtin, Sem.run_bind, Sem.run_pure, Result.andThen_ok, List.map_toArray, List.map_cons, List.map_nil, hs, hx, hrun]
    refine hK _ _ (h _ _ _ rfl hge ?_ ((Below.refl _ _).drew.alloc (Nat.le_refl _) _))
    refine ⟨by simp, .inr ⟨w.heap.size, _, _, rfl, hbase, heap_alloc_new w.drew _, Nat.zero_le _, hcm, ?_, by simp⟩⟩
    rw [Array.size_append, size_zeroCells, size_zeroCells, hzs, ← Nat.add_mul]
    congr 1
    omega
end Go.Proofs.YtefdhlfljpppfaaGreat
namespace Go.Proofs.YtefdhlfljpppfaaGreat
open Go.RowKit
set_option linter.unusedVariables false
set_option linter.unusedSimpArgs false

set_option maxRecDepth 100000 in
set_option maxHeartbeats 1000000 in
theorem growE_nil (n : Nat) (w : World) (hn : n ≤ 1000000) :
    Calls Tryz.prog 139 #[.slice none 0 0, .int .i64 (n : Int)] w fun e w' => ∃ A c, e = .returned (.slice A 0 c) ∧ w'.ownsRow w.heap.size 85 2 (.slice A 0 c) 0 [] ∧ Below w.heap.size w w' := by
  by_cases h0 : n = 0
  · subst h0
    go_enter Tryz.func139, Tryz.ntmps139
    go_wp2
    go_ret
    exact ⟨none, 0, rfl, own_nil _ _ _ _, Below.refl _ _⟩
  · have h1 : (0 : Int) < (n : Int) := by omega
    have h2 : ¬ ((n : Int) < 0) := by omega
    go_enter Tryz.func139, Tryz.ntmps139
    go_wp2_with (at_builtin; refine wpList_appZ (base := w.heap.size) rfl (.tmp 20) (.tmp 21) 23 3 rfl .i64 (by kernel_rfl) el_ent rfl rfl (by omega) (by omega) (by omega) (Nat.le_refl _) ?_; intro g c8 w8 hg hc8 o8 b8)
    go_ret
    exact ⟨_, _, rfl, hg ▸ o8, b8⟩
set_option maxRecDepth 100000 in
set_option maxHeartbeats 2000000 in
theorem concatE_any (B : Option Addr) (c0 : Nat) (A1 A2 : Option Addr) (c1 c2 : Nat) (xs ys : List Ent) (w : World) (hB : Rd w B [.slice A1 xs.length c1, .slice A2 ys.length c2]) (h1 : Rd w A1 (xs.flatMap encE)) (h2 : Rd w A2 (ys.flatMap encE)) (hb1 : xs.length ≤ 400000) (hb2 : ys.length ≤ 400000) :
    Calls Tryz.prog 135 #[.slice B 2 c0] w fun e w' => ∃ A' c', e = .returned (.slice A' (xs ++ ys).length c') ∧ w'.ownsRow w.heap.size 85 2 (.slice A' (xs ++ ys).length c') (xs ++ ys).length ((xs ++ ys).flatMap encE) ∧ Below w.heap.size w w' := by
  obtain ⟨b, off, rfl, hbb, hc⟩ := hB (by simp)
  have x0 : w.cell? ⟨b, off, none⟩ = some (.slice A1 xs.length c1) := hc 0 _ rfl
  have x1 : w.cell? ⟨b, off + 1, none⟩ = some (.slice A2 ys.length c2) := hc 1 _ rfl
  have HB := hide (fun (w' : World) (hb : Below w.heap.size w w') => show w'.cell? ⟨b, off, none⟩ = some (.slice A1 xs.length c1) ∧ w'.cell? ⟨b, off + 1, none⟩ = some (.slice A2 ys.length c2) from ⟨(hb.cell (p := ⟨b, off, none⟩) hbb).trans x0, (hb.cell (p := ⟨b, off + 1, none⟩) hbb).trans x1⟩)
  clear hc hB
  have n1 : ¬ ((xs.length : Int) < 0) := by omega
  have n2 : ¬ ((xs.length : Int) + (ys.length : Int) < 0) := by omega
  go_enter Tryz.func135, Tryz.ntmps135
  go_wp2
  go_loop [3, 5, 11] (fun s _ i => (i = .int .i64 0 ∧ s = .int .i64 0) ∨ (i = .int .i64 1 ∧ s = .int .i64 xs.length) ∨ (i = .int .i64 2 ∧ s = .int .i64 (xs.length + ys.length))) (fun _ _ i => 2 - (intOf i).toNat)
  case atStart => exact .inl ⟨rfl, rfl⟩
  case round =>
    rcases hrel with ⟨rfl, rfl⟩ | ⟨rfl, rfl⟩ | ⟨rfl, rfl⟩
    · go_wp2
      go_round
      case rel => exact .inr (.inl ⟨by go_num, by go_num⟩)
      case measure => simp [intOf]
    · go_wp2
      go_round
      case rel => exact .inr (.inr ⟨by go_num, by go_num⟩)
      case measure => simp [intOf]
    · have KG := growE_nil (xs.length + ys.length) w (by omega)
      rw [Int.natCast_add] at KG
      go_wp2_with fail
      refine KG.mono ?_
      rintro e w1 ⟨A0, c3, rfl, o1, b1⟩
      clear KG x0 x1
      go_wp2
      go_loopw [6, 8, 27] (fun s _ i wr => ∃ A' c', Below w.heap.size w wr ∧ ((i = .int .i64 0 ∧ s = .slice A' 0 c' ∧ wr.ownsRow w.heap.size 85 2 (.slice A' 0 c') 0 []) ∨ (i = .int .i64 1 ∧ s = .slice A' xs.length c' ∧ wr.ownsRow w.heap.size 85 2 (.slice A' xs.length c') xs.length (xs.flatMap encE)) ∨ (i = .int .i64 2 ∧ s = .slice A' (xs.length + ys.length) c' ∧ wr.ownsRow w.heap.size 85 2 (.slice A' (xs.length + ys.length) c') (xs.length + ys.length) (xs.flatMap encE ++ ys.flatMap encE)))) (fun _ _ i _ => 2 - (intOf i).toNat)
      case atStart => exact ⟨A0, c3, b1, .inl ⟨rfl, rfl, o1⟩⟩
      case round =>
        clear o1 b1
        obtain ⟨A', c', hb, ⟨rfl, rfl, ho⟩ | ⟨rfl, rfl, ho⟩ | ⟨rfl, rfl, ho⟩⟩ := hrel
        · obtain ⟨x0, x1⟩ := unhide HB wr hb
          have hs := hb.size
          have hrg := own_rng ho
          go_wp2_with (at_builtin; refine wpList_app rfl (.tmp 31) (.tmp 32) 23 rfl el_ent rfl ho rfl (h1.new hb) (length_flat encE 2 encE_len xs) (one_ents xs) (by simp only [maxLen]; omega) (by omega) (by omega) ?_; intro A8 c8 w8 o8 ch8 d8 _)
          have hB8 : Below w.heap.size w w8 := hb.trans (ch8.below (fun q hq e => by have := hrg q e; omega) (by omega))
          go_roundw
          case rel => exact ⟨A8, c8, hB8, .inr (.inl ⟨by go_num, by simp, by simpa using o8⟩)⟩
          case measure => simp [intOf]
        · obtain ⟨x0, x1⟩ := unhide HB wr hb
          have hs := hb.size
          have hrg := own_rng ho
          go_wp2_with (at_builtin; refine wpList_app rfl (.tmp 31) (.tmp 32) 23 rfl el_ent rfl ho rfl (h2.new hb) (length_flat encE 2 encE_len ys) (one_ents ys) (by simp only [maxLen]; omega) (by omega) (by omega) ?_; intro A8 c8 w8 o8 ch8 d8 _)
          have hB8 : Below w.heap.size w w8 := hb.trans (ch8.below (fun q hq e => by have := hrg q e; omega) (by omega))
          go_roundw
          case rel => exact ⟨A8, c8, hB8, .inr (.inr ⟨by go_num, rfl, o8⟩)⟩
          case measure => simp [intOf]
        · go_wp2
          go_ret
          rw [List.length_append, List.flatMap_append]
          exact ⟨A', c', rfl, ho, hb⟩
end Go.Proofs.YtefdhlfljpppfaaGreat
namespace Go.Proofs.YtefdhlfljpppfaaGreat
open Go.RowKit
set_option linter.unusedVariables false
set_option linter.unusedSimpArgs false

set_option maxRecDepth 100000 in
set_option maxHeartbeats 4000000 in
theorem effectSum_impl (x : Eff) (A1 : Option Addr) (c1 : Nat) (A2 : Option Addr) (c2 : Nat) (w : World) (h1 : Rd w A1 (x.reads.flatMap encE)) (h2 : Rd w A2 (x.writes.flatMap encE)) (hb1 : x.reads.length ≤ 400000) (hb2 : x.writes.length ≤ 400000) :
    Calls Tryz.prog 120 #[.agg #[.bool x.done, .slice A1 x.reads.length c1, .slice A2 x.writes.length c2]] w fun e w' => e = .returned (.int .i64 (effSum x)) ∧ Below w.heap.size w w' := by
  obtain ⟨dn, rs, ws⟩ := x
  simp only at h1 h2 hb1 hb2 ⊢
  cases dn
  · have HS := hide (show effSum ⟨false, rs, ws⟩ = sumF 3 ([0, (rs.length : Int)] ++ (rs ++ ws).flatMap entN) from by simp [effSum, effL])
    have k0 : Blk (w.alloc (.cells #[.bool false, .slice A1 rs.length c1, .slice A2 ws.length c2] 83)) w.heap.size 83 #[.bool false, .slice A1 rs.length c1, .slice A2 ws.length c2] := Blk.new _ _ _
    have om : ((w.alloc (.cells #[.bool false, .slice A1 rs.length c1, .slice A2 ws.length c2] 83)).alloc (.cells #[.int .i64 0, .int .i64 (rs.length : Int)] 3)).ownsRow (w.heap.size + 1) 3 1 (.slice (some ⟨w.heap.size + 1, 0, none⟩) 2 2) 2 [.int .i64 0, .int .i64 (rs.length : Int)] := by
      have := own_made (base := w.heap.size + 1) (e := 3) (size := 1) (w.alloc (.cells #[.bool false, .slice A1 rs.length c1, .slice A2 ws.length c2] 83)) #[.int .i64 0, .int .i64 (rs.length : Int)] 2 (by simp) (by simp [maxLen]) rfl
      simpa using this
    have bm : Below w.heap.size w ((w.alloc (.cells #[.bool false, .slice A1 rs.length c1, .slice A2 ws.length c2] 83)).alloc (.cells #[.int .i64 0, .int .i64 (rs.length : Int)] 3)) := ((Below.refl _ _).alloc (Nat.le_refl _) _).alloc (by simp) _
    have x1 : (w.alloc (.cells #[.bool false, .slice A1 rs.length c1, .slice A2 ws.length c2] 83)).cell? ⟨w.heap.size, 1, none⟩ = some (.slice A1 rs.length c1) := k0.cell 1
    have kw : Blk ((w.alloc (.cells #[.bool false, .slice A1 rs.length c1, .slice A2 ws.length c2] 83)).alloc (.cells #[.int .i64 0, .int .i64 (rs.length : Int)] 3)) w.heap.size 83 #[.bool false, .slice A1 rs.length c1, .slice A2 ws.length c2] := k0.alloc _
    have y1 : ((w.alloc (.cells #[.bool false, .slice A1 rs.length c1, .slice A2 ws.length c2] 83)).alloc (.cells #[.int .i64 0, .int .i64 (rs.length : Int)] 3)).cell? ⟨w.heap.size, 1, none⟩ = some (.slice A1 rs.length c1) := kw.cell 1
    have y2 : ((w.alloc (.cells #[.bool false, .slice A1 rs.length c1, .slice A2 ws.length c2] 83)).alloc (.cells #[.int .i64 0, .int .i64 (rs.length : Int)] 3)).cell? ⟨w.heap.size, 2, none⟩ = some (.slice A2 ws.length c2) := kw.cell 2
    obtain ⟨W, hW⟩ : ∃ W : World, W = ((w.alloc (.cells #[.bool false, .slice A1 rs.length c1, .slice A2 ws.length c2] 83)).alloc (.cells #[.int .i64 0, .int .i64 (rs.length : Int)] 3)).alloc (.cells #[.slice A1 rs.length c1, .slice A2 ws.length c2] 23) := ⟨_, rfl⟩
    have bl : Below w.heap.size w W := by rw [hW]; exact bm.alloc (by simp; omega) _
    have ol : W.ownsRow (w.heap.size + 1) 3 1 (.slice (some ⟨w.heap.size + 1, 0, none⟩) 2 2) 2 [.int .i64 0, .int .i64 (rs.length : Int)] := by rw [hW]; exact own_alloc om _
    have rl : Rd W (some ⟨w.heap.size + 2, 0, none⟩) [.slice A1 rs.length c1, .slice A2 ws.length c2] := by rw [hW]; exact rd_at _ [.slice A1 rs.length c1, .slice A2 ws.length c2] _ (by simp)
    have KC := concatE_any (some ⟨w.heap.size + 2, 0, none⟩) 2 A1 A2 c1 c2 rs ws W rl (h1.new bl) (h2.new bl) hb1 hb2
    clear h1 h2 kw k0 om bm rl
    go_enter Tryz.func120, Tryz.ntmps120
    go_wp2_with fail
    rw [← hW]
    refine KC.mono ?_
    rintro e w3 ⟨A, c, rfl, oc, b3⟩
    have o3 := own_new ol b3
    have oz := own_base0 oc
    have B3 := bthen bl b3
    clear KC hW oc b3 ol bl x1 y1 y2
    have hzl : (rs ++ ws).length ≤ 800000 := by rw [List.length_append]; omega
    generalize rs ++ ws = zs at *
    go_wp2
    go_loopw [3, 5, 21] (fun ns _ i wr => ∃ (k : Nat) (A' : Option Addr) (c' : Nat), k ≤ zs.length ∧ i = .int .i64 k ∧ ns = .slice A' (2 + 2 * k) c' ∧ wr.ownsRow (w.heap.size + 1) 3 1 (.slice A' (2 + 2 * k) c') (2 + 2 * k) (([0, (rs.length : Int)] ++ (zs.take k).flatMap entN).map (.int .i64)) ∧ wr.ownsRow 0 85 2 (.slice A zs.length c) zs.length (zs.flatMap encE) ∧ Below w.heap.size w wr ∧ w.heap.size + 1 ≤ wr.heap.size) (fun _ _ i _ => zs.length - (intOf i).toNat)
    case atStart => exact ⟨0, _, _, Nat.zero_le _, rfl, rfl, by simpa using o3, oz, B3, by have := own_rng o3 _ rfl; omega⟩
    case round =>
      clear o3 oz B3
      obtain ⟨k, A', c', hk, rfl, rfl, hown, oz, hB, hsz1⟩ := hrel
      have hsz := hB.size
      by_cases hlt : k < zs.length
      · obtain ⟨bq, offq, hAe, hbb, q0, q1⟩ := (own_rd oz).ent hlt
        have HT := hide (entN_take [0, (rs.length : Int)] zs k hlt)
        have hne := own_ne hown oz (by decide)
        generalize zs[k] = en at *
        have i1 : (k : Int) < (zs.length : Int) := by omega
        have HAE := hide hAe
        have HOZ := hide (fun (w' : World) (b : Below wr.heap.size wr w') => own_new oz b)
        have hrg := own_rng hown
        clear oz hAe
        rw [unhide HAE]
        go_wp2_with (at_builtin; refine wpList_app rfl (.tmp 25) (.tmp 30) 25 rfl el_int rfl (own_alloc (own_alloc hown _) _) rfl (rd_at (s := wr.heap.size + 1) _ [.int .i64 en.k, .int .i64 en.v] _ (by simp)) rfl (one_ints [en.k, en.v]) (by simp only [maxLen]; omega) (by omega) (by simp; omega) ?_; intro A8 c8 w8 o8 ch8 d8 _)
        have hB8 : Below w.heap.size w w8 := ((hB.alloc hsz _).alloc (by simp; omega) _).trans (ch8.below (fun q hq e => by have := hrg q e; omega) (by simp; omega))
        have oz8 := own_chg (own_alloc (own_alloc (unhide HOZ wr (Below.refl _ _)) (.cells #[.int .i64 en.k, .int .i64 en.v] 85)) (.cells #[.int .i64 en.k, .int .i64 en.v] 3)) ch8 (fun q h1 h2 => hne q h2 h1)
        have hs8 := ch8.size
        go_roundw
        case rel => exact ⟨k + 1, A8, c8, by omega, by go_num, by simp; omega, by rw [← unhide HT]; simpa [Nat.mul_add, Nat.add_assoc] using o8, by rw [← unhide HAE]; exact oz8, hB8, by simp at hs8; omega⟩
        case measure => simp [intOf]; omega
      · obtain rfl : k = zs.length := by omega
        rw [List.take_length] at hown
        have hlen : ([0, (rs.length : Int)] ++ zs.flatMap entN).length = 2 + 2 * zs.length := by rw [List.length_append, entN_len]; rfl
        have KS := sum_impl 3 A' c' ([0, (rs.length : Int)] ++ zs.flatMap entN) wr (own_rd hown) (by omega)
        rw [hlen, ← unhide HS] at KS
        clear hlen
        go_wp2_with fail
        refine KS.mono ?_
        rintro e w' ⟨rfl, rfl⟩
        go_wp2
        go_ret
        exact ⟨rfl, hB⟩
  · have HS := hide (show effSum ⟨true, rs, ws⟩ = sumF 3 ([1, (rs.length : Int)] ++ (rs ++ ws).flatMap entN) from by simp [effSum, effL])
    have k0 : Blk (w.alloc (.cells #[.bool true, .slice A1 rs.length c1, .slice A2 ws.length c2] 83)) w.heap.size 83 #[.bool true, .slice A1 rs.length c1, .slice A2 ws.length c2] := Blk.new _ _ _
    have om : ((w.alloc (.cells #[.bool true, .slice A1 rs.length c1, .slice A2 ws.length c2] 83)).alloc (.cells #[.int .i64 1, .int .i64 (rs.length : Int)] 3)).ownsRow (w.heap.size + 1) 3 1 (.slice (some ⟨w.heap.size + 1, 0, none⟩) 2 2) 2 [.int .i64 1, .int .i64 (rs.length : Int)] := by
      have := own_made (base := w.heap.size + 1) (e := 3) (size := 1) (w.alloc (.cells #[.bool true, .slice A1 rs.length c1, .slice A2 ws.length c2] 83)) #[.int .i64 1, .int .i64 (rs.length : Int)] 2 (by simp) (by simp [maxLen]) rfl
      simpa using this
    have bm : Below w.heap.size w ((w.alloc (.cells #[.bool true, .slice A1 rs.length c1, .slice A2 ws.length c2] 83)).alloc (.cells #[.int .i64 1, .int .i64 (rs.length : Int)] 3)) := ((Below.refl _ _).alloc (Nat.le_refl _) _).alloc (by simp) _
    have x1 : (w.alloc (.cells #[.bool true, .slice A1 rs.length c1, .slice A2 ws.length c2] 83)).cell? ⟨w.heap.size, 1, none⟩ = some (.slice A1 rs.length c1) := k0.cell 1
    have kw : Blk ((w.alloc (.cells #[.bool true, .slice A1 rs.length c1, .slice A2 ws.length c2] 83)).alloc (.cells #[.int .i64 1, .int .i64 (rs.length : Int)] 3)) w.heap.size 83 #[.bool true, .slice A1 rs.length c1, .slice A2 ws.length c2] := k0.alloc _
    have y1 : ((w.alloc (.cells #[.bool true, .slice A1 rs.length c1, .slice A2 ws.length c2] 83)).alloc (.cells #[.int .i64 1, .int .i64 (rs.length : Int)] 3)).cell? ⟨w.heap.size, 1, none⟩ = some (.slice A1 rs.length c1) := kw.cell 1
    have y2 : ((w.alloc (.cells #[.bool true, .slice A1 rs.length c1, .slice A2 ws.length c2] 83)).alloc (.cells #[.int .i64 1, .int .i64 (rs.length : Int)] 3)).cell? ⟨w.heap.size, 2, none⟩ = some (.slice A2 ws.length c2) := kw.cell 2
    obtain ⟨W, hW⟩ : ∃ W : World, W = ((w.alloc (.cells #[.bool true, .slice A1 rs.length c1, .slice A2 ws.length c2] 83)).alloc (.cells #[.int .i64 1, .int .i64 (rs.length : Int)] 3)).alloc (.cells #[.slice A1 rs.length c1, .slice A2 ws.length c2] 23) := ⟨_, rfl⟩
    have bl : Below w.heap.size w W := by rw [hW]; exact bm.alloc (by simp; omega) _
    have ol : W.ownsRow (w.heap.size + 1) 3 1 (.slice (some ⟨w.heap.size + 1, 0, none⟩) 2 2) 2 [.int .i64 1, .int .i64 (rs.length : Int)] := by rw [hW]; exact own_alloc om _
    have rl : Rd W (some ⟨w.heap.size + 2, 0, none⟩) [.slice A1 rs.length c1, .slice A2 ws.length c2] := by rw [hW]; exact rd_at _ [.slice A1 rs.length c1, .slice A2 ws.length c2] _ (by simp)
    have KC := concatE_any (some ⟨w.heap.size + 2, 0, none⟩) 2 A1 A2 c1 c2 rs ws W rl (h1.new bl) (h2.new bl) hb1 hb2
    clear h1 h2 kw k0 om bm rl
    go_enter Tryz.func120, Tryz.ntmps120
    go_wp2_with fail
    rw [← hW]
    refine KC.mono ?_
    rintro e w3 ⟨A, c, rfl, oc, b3⟩
    have o3 := own_new ol b3
    have oz := own_base0 oc
    have B3 := bthen bl b3
    clear KC hW oc b3 ol bl x1 y1 y2
    have hzl : (rs ++ ws).length ≤ 800000 := by rw [List.length_append]; omega
    generalize rs ++ ws = zs at *
    go_wp2
    go_loopw [3, 5, 21] (fun ns _ i wr => ∃ (k : Nat) (A' : Option Addr) (c' : Nat), k ≤ zs.length ∧ i = .int .i64 k ∧ ns = .slice A' (2 + 2 * k) c' ∧ wr.ownsRow (w.heap.size + 1) 3 1 (.slice A' (2 + 2 * k) c') (2 + 2 * k) (([1, (rs.length : Int)] ++ (zs.take k).flatMap entN).map (.int .i64)) ∧ wr.ownsRow 0 85 2 (.slice A zs.length c) zs.length (zs.flatMap encE) ∧ Below w.heap.size w wr ∧ w.heap.size + 1 ≤ wr.heap.size) (fun _ _ i _ => zs.length - (intOf i).toNat)
    case atStart => exact ⟨0, _, _, Nat.zero_le _, rfl, rfl, by simpa using o3, oz, B3, by have := own_rng o3 _ rfl; omega⟩
    case round =>
      clear o3 oz B3
      obtain ⟨k, A', c', hk, rfl, rfl, hown, oz, hB, hsz1⟩ := hrel
      have hsz := hB.size
      by_cases hlt : k < zs.length
      · obtain ⟨bq, offq, hAe, hbb, q0, q1⟩ := (own_rd oz).ent hlt
        have HT := hide (entN_take [1, (rs.length : Int)] zs k hlt)
        have hne := own_ne hown oz (by decide)
        generalize zs[k] = en at *
        have i1 : (k : Int) < (zs.length : Int) := by omega
        have HAE := hide hAe
        have HOZ := hide (fun (w' : World) (b : Below wr.heap.size wr w') => own_new oz b)
        have hrg := own_rng hown
        clear oz hAe
        rw [unhide HAE]
        go_wp2_with (at_builtin; refine wpList_app rfl (.tmp 25) (.tmp 30) 25 rfl el_int rfl (own_alloc (own_alloc hown _) _) rfl (rd_at (s := wr.heap.size + 1) _ [.int .i64 en.k, .int .i64 en.v] _ (by simp)) rfl (one_ints [en.k, en.v]) (by simp only [maxLen]; omega) (by omega) (by simp; omega) ?_; intro A8 c8 w8 o8 ch8 d8 _)
        have hB8 : Below w.heap.size w w8 := ((hB.alloc hsz _).alloc (by simp; omega) _).trans (ch8.below (fun q hq e => by have := hrg q e; omega) (by simp; omega))
        have oz8 := own_chg (own_alloc (own_alloc (unhide HOZ wr (Below.refl _ _)) (.cells #[.int .i64 en.k, .int .i64 en.v] 85)) (.cells #[.int .i64 en.k, .int .i64 en.v] 3)) ch8 (fun q h1 h2 => hne q h2 h1)
        have hs8 := ch8.size
        go_roundw
        case rel => exact ⟨k + 1, A8, c8, by omega, by go_num, by simp; omega, by rw [← unhide HT]; simpa [Nat.mul_add, Nat.add_assoc] using o8, by rw [← unhide HAE]; exact oz8, hB8, by simp at hs8; omega⟩
        case measure => simp [intOf]; omega
      · obtain rfl : k = zs.length := by omega
        rw [List.take_length] at hown
        have hlen : ([1, (rs.length : Int)] ++ zs.flatMap entN).length = 2 + 2 * zs.length := by rw [List.length_append, entN_len]; rfl
        have KS := sum_impl 3 A' c' ([1, (rs.length : Int)] ++ zs.flatMap entN) wr (own_rd hown) (by omega)
        rw [hlen, ← unhide HS] at KS
        clear hlen
        go_wp2_with fail
        refine KS.mono ?_
        rintro e w' ⟨rfl, rfl⟩
        go_wp2
        go_ret
        exact ⟨rfl, hB⟩
set_option maxRecDepth 100000 in
set_option maxHeartbeats 4000000 in
theorem effectsSum_impl (A : Option Addr) (c : Nat) (es : List Eff) (P : Nat → Prop) (w : World) (h : RdD effR P w A es) (hb : es.length ≤ 1000000) (hbs : ∀ x ∈ es, x.reads.length ≤ 400000 ∧ x.writes.length ≤ 400000) :
    Calls Tryz.prog 88 #[.slice A es.length c] w fun e w' => e = .returned (.int .i64 (effsSum es)) ∧ Below w.heap.size w w' := by
  have HBS := hide hbs
  clear hbs
  by_cases hl : es.length ≤ 10
  · have HS := hide (show effsSum es = sumF 4 (es.map effSum) by rw [effsSum, if_pos hl])
    have i2 : ¬ (10 : Int) < (es.length : Int) := by omega
    clear hl
    go_enter Tryz.func88, Tryz.ntmps88
    go_wp2
    go_loopw [3, 5, 11] (fun ns _ i wr => ∃ (k : Nat) (A' : Option Addr) (c' : Nat), k ≤ es.length ∧ i = .int .i64 k ∧ ns = .slice A' k c' ∧ wr.ownsRow w.heap.size 3 1 (.slice A' k c') k (((es.take k).map effSum).map (.int .i64)) ∧ Below w.heap.size w wr) (fun _ _ i _ => es.length - (intOf i).toNat)
    case atStart => exact ⟨0, none, 0, Nat.zero_le _, rfl, rfl, own_nil _ _ _ _, Below.refl _ _⟩
    case round =>
      obtain ⟨k, A', c', hk, rfl, rfl, hown, hB⟩ := hrel
      have hsz := hB.size
      by_cases hlt : k < es.length
      · have i1 : (k : Int) < (es.length : Int) := by omega
        obtain ⟨b, off, A1, c1, A2, c2, hAe, hbP, hbb, d0, d1, d2, hl1, hl2, r1, r2⟩ := (h.new eff_good hB).eff hlt
        have hbx := unhide HBS es[k] (List.getElem_mem hlt)
        have HT := hide (show (es.take (k + 1)).map effSum = (es.take k).map effSum ++ [effSum es[k]] by rw [List.take_succ_eq_append_getElem hlt, List.map_append]; rfl)
        generalize es[k] = x at *
        have HAE := hide hAe
        clear hAe hl1 hl2 hbP
        have KE := effectSum_impl x A1 c1 A2 c2 (wr.alloc (.cells #[.bool x.done, .slice A1 x.reads.length c1, .slice A2 x.writes.length c2] 83)) (r1.rd.new ((Below.refl _ _).alloc (Nat.le_refl _) _)) (r2.rd.new ((Below.refl _ _).alloc (Nat.le_refl _) _)) hbx.1 hbx.2
        rw [unhide HAE]
        go_wp2_with fail
        refine KE.mono ?_
        rintro e w3 ⟨rfl, b3⟩
        clear KE
        have o3 := own_new (own_alloc hown (.cells #[.bool x.done, .slice A1 x.reads.length c1, .slice A2 x.writes.length c2] 83)) b3
        have hB3 := bthen (hB.alloc hsz (.cells #[.bool x.done, .slice A1 x.reads.length c1, .slice A2 x.writes.length c2] 83)) b3
        have hs3 := hB3.size
        have hrg := own_rng hown
        clear b3
        generalize effSum x = z at *
        go_wp2_with (at_builtin; refine wpList_app rfl (.tmp 15) (.tmp 18) 25 rfl el_int rfl (own_alloc o3 _) rfl (rd_lit w3 [.int .i64 z] _) rfl (one_ints [z]) (by simp only [maxLen]; omega) (by omega) (by simp; omega) ?_; intro A8 c8 w8 o8 ch8 d8 _)
        have hB8 : Below w.heap.size w w8 := (hB3.alloc (by omega) _).trans (ch8.below (fun q hq e => by have := hrg q e; omega) (by simp; omega))
        go_roundw
        case rel => exact ⟨k + 1, A8, c8, by omega, by go_num, rfl, by rw [unhide HT, List.map_append]; simpa using o8, hB8⟩
        case measure => simp [intOf]; omega
      · obtain rfl : k = es.length := by omega
        rw [List.take_length] at hown
        have KS := sum_impl 4 A' c' (es.map effSum) wr (own_rd hown) (by rw [List.length_map]; omega)
        rw [List.length_map, ← unhide HS] at KS
        go_wp2_with fail
        refine KS.mono ?_
        rintro e w' ⟨rfl, rfl⟩
        go_wp2
        go_ret
        exact ⟨rfl, hB⟩
  · have HS := hide (show effsSum es = -1 by rw [effsSum, if_neg hl])
    have i2 : (10 : Int) < (es.length : Int) := by omega
    clear hl
    go_enter Tryz.func88, Tryz.ntmps88
    go_wp2
    go_ret
    exact ⟨reti (unhide HS).symm, Below.refl _ _⟩
end Go.Proofs.YtefdhlfljpppfaaGreat
namespace Go.Proofs.YtefdhlfljpppfaaGreat
open Go.RowKit
set_option linter.unusedVariables false
set_option linter.unusedSimpArgs false

theorem el_bool : El Tryz.prog 45 4 1 1 := El.mk_ (z := .bool false) Tryz.underlying45 (by kernel_rfl) rfl (by omega)
theorem Rd.boo {w : World} {A : Option Addr} {zs : List Bool} (h : Rd w A (zs.map Value.bool)) {k : Nat} (hk : k < zs.length) :
    ∃ b off, A = some ⟨b, off, none⟩ ∧ b < w.heap.size ∧ w.cell? ⟨b, off + k, none⟩ = some (.bool zs[k]) := by
  obtain ⟨b, off, rfl, hb, hc⟩ := h (by simp; omega)
  exact ⟨b, off, rfl, hb, hc k _ (by simp [hk])⟩
theorem one_bools (zs : List Bool) : ∀ u ∈ zs.map Value.bool, u.oneCell' = true := by
  intro u hu
  obtain ⟨z, _, rfl⟩ := List.mem_map.1 hu
  rfl
def markB (k : Int) (n : Nat) : List Bool := (List.range n).map fun i : Nat => (k + (i : Int)) % 3 == 0
theorem markB_succ (k : Int) (n : Nat) : markB k (n + 1) = markB k n ++ [(k + n) % 3 == 0] := by simp [markB, List.range_succ]
theorem markB_length (k : Int) (n : Nat) : (markB k n).length = n := by simp [markB]
theorem markB_get (k : Int) (n i : Nat) (h : i < (markB k n).length) : (markB k n)[i] = ((k + i) % 3 == 0) := by simp [markB]

end Go.Proofs.YtefdhlfljpppfaaGreat
namespace Go.Proofs.YtefdhlfljpppfaaGreat
open Go.RowKit
set_option linter.unusedVariables false
set_option linter.unusedSimpArgs false

/-- the values before a block -/
def aheadV (t : Tr) (k : Nat) : List Int := afterV t (pathT t (pAt t k))
theorem aheadV_zero {t : Tr} (h : treeB t = true) : aheadV t 0 = valsL t.base := by
  have h0 := (treeB_yes h).2.2.2.2.2.1
  unfold aheadV
  rw [h0, pathT_out t (by omega)]
  rfl
theorem after_step {t : Tr} (h : treeB t = true) {k : Nat} (hk : k < t.blocks.length) : afterV t (pathT t (k : Int)) = runAllV (aheadV t k) (bAt t k).list := by
  rw [pathT_step h (n := (k : Int)) (by omega) (by omega), afterV_snoc]
  simp [aheadV]
theorem valOk_ahead {t : Tr} (h : treeB t = true) (k : Nat) : valOk (aheadV t k) := valOk_after h _ fun x hx => pathT_mem hx
/-- is a block one over a store? -/
def blkRightB (b : Bk) (s : List Ent) : Bool := blkB b && (storeB s && (b.root == rootL (serialS s b.list) && b.eff == effsSum (serialE s b.list)))
/-- are a block and all before it right? -/
def rightN (t : Tr) : Nat → List Bool
  | 0 => []
  | n + 1 => rightN t n ++ [blkRightB (bAt t n) (storeL (aheadV t n)) && (n == 0 || (rightN t n).getD (pAt t n).toNat false)]
theorem rightN_len (t : Tr) : ∀ n, (rightN t n).length = n
  | 0 => rfl
  | n + 1 => by rw [rightN, List.length_append, rightN_len t n]; rfl
def bEnts (xs : List Ent) (v : Value) (w : World) : Prop := ∃ A c, v = .slice A xs.length c ∧ Rd w A (xs.flatMap encE)
theorem sb_Ents (xs : List Ent) : StB (bEnts xs) := fun _ _ _ hb ⟨A, c, h1, h2⟩ => ⟨A, c, h1, h2.new hb⟩
set_option maxRecDepth 100000 in
set_option maxHeartbeats 4000000 in
theorem ahead_impl (t : Tr) (A1 : Option Addr) (c1 : Nat) (A2 : Option Addr) (c2 : Nat) (A3 : Option Addr) (c3 : Nat) (k : Nat) (w : World) (h : TrR w t A1 A2 A3) (hv : treeB t = true) (hk : k < t.blocks.length) :
    Calls Tryz.prog 49 #[.agg (trA t A1 c1 A2 c2 A3 c3), .int .i64 (k : Int)] w fun e w' => e = .returned (.agg (vA (aheadV t k))) ∧ Below w.heap.size w w' := by
  have HV := hide hv
  have hb1 : t.base.length ≤ 32 := store_len (treeB_yes hv).1
  have hkb : ∀ e ∈ t.base, 0 ≤ e.k ∧ e.k ≤ 31 := fun e he => by have := evOk_all (treeB_yes hv).1 e he; omega
  have HKB := hide hkb
  have hbl : t.before.length = t.blocks.length := (treeB_yes hv).2.2.2.1
  have hk3 : k < t.before.length := by omega
  clear hbl
  have hp := pAt_lt hv hk
  have hpz := hide (fun hz : k = 0 => (show aheadV t k = valsL t.base by subst hz; exact aheadV_zero hv))
  have hsz : (vA (aheadV t k)).size = 32 := by rw [vA_size]; exact (valOk_ahead hv k).1
  clear hv hkb
  have HR := hide (fun w' (hb : Below w.heap.size w w') => h.new hb)
  obtain ⟨W, hW⟩ : ∃ W : World, W = (w.alloc (.cells (trA t A1 c1 A2 c2 A3 c3) 27)).alloc (.cells zA 76) := ⟨_, rfl⟩
  have hb0 : Below w.heap.size w W := by rw [hW]; exact ((Below.refl _ _).alloc (Nat.le_refl _) _).alloc (by simp) _
  have K0 : Blk W w.heap.size 27 (trA t A1 c1 A2 c2 A3 c3) := by rw [hW]; exact (Blk.new _ _ _).alloc _
  have K1 : Blk W (w.heap.size + 1) 76 zA := by
    rw [hW]
    have := Blk.new (w.alloc (.cells (trA t A1 c1 A2 c2 A3 c3) 27)) 76 zA
    simpa using this
  have x0 : W.cell? ⟨w.heap.size, 0, none⟩ = some (.slice A1 t.base.length c1) := K0.cell 0
  have x1 : W.cell? ⟨w.heap.size, 1, none⟩ = some (.slice A2 t.blocks.length c2) := K0.cell 1
  have x2 : W.cell? ⟨w.heap.size, 2, none⟩ = some (.slice A3 t.before.length c3) := K0.cell 2
  have KV := valuesOf_any A1 c1 t.base W ((unhide HR W hb0).b1) (by omega) (unhide HKB)
  have KA := hide (after_impl t A1 c1 A2 c2 A3 c3 (pAt t k) W.drew ((unhide HR W hb0).drewN 1) (unhide HV) hp.1 (by omega))
  obtain ⟨bq, offq, hA3, hbb, d0⟩ := ((unhide HR W hb0).b3).int hk3
  rw [← pAt_get t hk3] at d0
  have HAV := hide (show aheadV t k = afterV t (pathT t (pAt t k)) from rfl)
  generalize aheadV t k = av at *
  generalize pAt t k = pk at *
  have hgz : zA.size = 32 := rfl
  have HEND := hide (fun (w' : World) (u : List Int) (hu : (vA u).size = 32) (K : Blk w' (w.heap.size + 1) 76 zA) (hB : Below w.heap.size w w') => show Blk (w'.setRow (w.heap.size + 1) (vA u)) (w.heap.size + 1) 76 (vA u) ∧ Below w.heap.size w (w'.setRow (w.heap.size + 1) (vA u)) from ⟨blk_setRow K, ⟨hB.os, hB.tape, hB.output, by rw [size_setRow]; exact hB.size, fun q hq => (setRow_other w' (w.heap.size + 1) q _ (by omega)).trans (hB.block q hq)⟩⟩)
  simp only [trA] at K0 hW KA ⊢
  clear h
  by_cases hz : k = 0
  · have HE := hide (unhide hpz hz)
    have hls : (vA (valsL t.base)).size = 32 := by rw [vA_size, valsL_len]
    subst hz
    clear hpz d0 hA3 KA
    go_enter Tryz.func49, Tryz.ntmps49
    subst hW
    go_wp2_with fail
    refine KV.mono ?_
    rintro e w3 ⟨rfl, b3⟩
    have K3 := K1.new_ b3
    have hB3 := bthen hb0 b3
    clear KV b3 x0 x1 x2 K0 K1
    go_wp2_with (refine wpList_store_row rfl 76 (.tmp 4) (.tmp 9) rfl (w.heap.size + 1) (vA (valsL t.base)) rfl rfl 76 zA K3 (by rw [hls]; exact info_vals) (by rw [hls]; rfl) (vA_one _) ?_)
    obtain ⟨k4, b4⟩ := unhide HEND w3 _ hls K3 hB3
    refine bodyPost_ret (v := .agg (vA (valsL t.base))) (results_cell_row (p := 4) (ty := 76) rfl _ _ (w.heap.size + 1) 76 (vA (valsL t.base)) (0, 0) _ rfl k4 Tryz.underlying76 rfl (by rw [hls]; exact info_vals)) rfl ⟨by rw [unhide HE], b4⟩
  · have hkz : ((k : Int) == 0) = false := by simp; exact hz
    have hkz2 : ¬ (k : Int) = 0 := by omega
    have i1 : (k : Int) < (t.before.length : Int) := by omega
    have HA := hide hA3
    clear hpz hz KV hA3
    rw [unhide HA] at x2 hW K0 KA ⊢
    go_enter Tryz.func49, Tryz.ntmps49
    unfold zA at hW
    go_upto_region 3 with fail
    rw [← hW]
    clear hW
    go_still_tail 6, (by kernel_rfl)
    change wpList _ _ _ _ _ W.drew
    go_wp2_with fail
    refine (unhide KA).mono ?_
    rintro e w3 ⟨rfl, b3⟩
    have b3' := below_undrew b3
    have K3 := K1.new_ b3'
    have hB3 := bthen hb0 b3'
    clear b3 x0 x1 x2 K0 K1
    rw [← unhide HAV]
    go_wp2_with (refine wpList_store_row rfl 76 (.tmp 4) (.tmp 16) rfl (w.heap.size + 1) (vA av) rfl rfl 76 zA K3 (by rw [hsz]; exact info_vals) (by rw [hsz]; rfl) (vA_one _) ?_)
    obtain ⟨k4, b4⟩ := unhide HEND w3 _ hsz K3 hB3
    refine bodyPost_ret (v := .agg (vA av)) (results_cell_row (p := 4) (ty := 76) rfl _ _ (w.heap.size + 1) 76 (vA av) (0, 0) _ rfl k4 Tryz.underlying76 rfl (by rw [hsz]; exact info_vals)) rfl ⟨rfl, b4⟩
set_option maxRecDepth 100000 in
set_option maxHeartbeats 4000000 in
theorem blockRight_impl (x : Bk) (A : Option Addr) (c : Nat) (B : Option Addr) (cs : Nat) (s : List Ent) (w : World) (h : Rd w A (x.list.flatMap encA)) (hb : x.list.length ≤ 4611686018427387904) (hs : Rd w B (s.flatMap encE)) (hbs : s.length ≤ 4611686018427387904) :
    Calls Tryz.prog 51 #[.agg #[.int .i64 x.before, .int .i64 x.height, .int .i64 x.view, .slice A x.list.length c, .int .i64 x.root, .int .i64 x.eff], .slice B s.length cs] w fun e w' => e = .returned (.bool (blkRightB x s)) ∧ Below w.heap.size w w' := by
  have k0 := Blk.new w 50 #[.int .i64 x.before, .int .i64 x.height, .int .i64 x.view, .slice A x.list.length c, .int .i64 x.root, .int .i64 x.eff]
  have hb0 : Below w.heap.size w (w.alloc (.cells #[.int .i64 x.before, .int .i64 x.height, .int .i64 x.view, .slice A x.list.length c, .int .i64 x.root, .int .i64 x.eff] 50)) := (Below.refl _ _).alloc (Nat.le_refl _) _
  generalize hW : w.alloc (.cells #[.int .i64 x.before, .int .i64 x.height, .int .i64 x.view, .slice A x.list.length c, .int .i64 x.root, .int .i64 x.eff] 50) = W at *
  have KB := blockValid_impl x A c W (h.new hb0) hb
  have z0 : W.cell? ⟨w.heap.size, 0, none⟩ = some _ := k0.cell 0
  have z1 : W.cell? ⟨w.heap.size, 1, none⟩ = some _ := k0.cell 1
  have z2 : W.cell? ⟨w.heap.size, 2, none⟩ = some _ := k0.cell 2
  have z3 : W.cell? ⟨w.heap.size, 3, none⟩ = some _ := k0.cell 3
  have z4 : W.cell? ⟨w.heap.size, 4, none⟩ = some _ := k0.cell 4
  have z5 : W.cell? ⟨w.heap.size, 5, none⟩ = some _ := k0.cell 5
  cases hv : blkB x
  · have HR := hide (show blkRightB x s = false by simp [blkRightB, hv])
    go_enter Tryz.func51, Tryz.ntmps51
    subst hW
    go_wp2_with fail
    refine KB.mono ?_
    rintro e w1 ⟨rfl, b1⟩
    rw [hv]
    go_wp2
    go_ret
    exact ⟨retb (unhide HR).symm, bthen hb0 b1⟩
  cases hsv : storeB s
  · have HR := hide (show blkRightB x s = false by simp [blkRightB, hsv])
    go_enter Tryz.func51, Tryz.ntmps51
    subst hW
    go_wp2_with fail
    refine KB.mono ?_
    rintro e w1 ⟨rfl, b1⟩
    rw [hv]
    go_wp2_with fail
    refine (storeB_impl B cs s w1 (hs.new (bthen hb0 b1)) hbs).mono ?_
    rintro e w2 ⟨rfl, b2⟩
    rw [hsv]
    go_wp2
    go_ret
    exact ⟨retb (unhide HR).symm, bthen hb0 (bthen b1 b2)⟩
  have HR := hide (show blkRightB x s = (x.root == rootL (serialS s x.list) && x.eff == effsSum (serialE s x.list)) by simp [blkRightB, hv, hsv])
  go_enter Tryz.func51, Tryz.ntmps51
  subst hW
  go_wp2_with fail
  refine KB.mono ?_
  rintro e w1 ⟨rfl, b1⟩
  rw [hv]
  clear KB hv z0 z1 z2 z3 z4 z5
  go_wp2_with fail
  refine (storeB_impl B cs s w1 (hs.new (bthen hb0 b1)) hbs).mono ?_
  rintro e w2 ⟨rfl, b2⟩
  rw [hsv]
  clear hsv
  have b12 := bthen b1 b2
  have k2 := k0.new_ b12
  have hB2 := bthen hb0 b12
  have z3 : w2.cell? ⟨w.heap.size, 3, none⟩ = some _ := k2.cell 3
  clear b1 b2 b12 k0 hb0
  go_wp2_with fail
  refine (runSerial_impl B cs s A c x.list w2 (hs.new hB2) hbs (h.new hB2) hb).mono ?_
  rintro e w3 ⟨B1, e1, B2, e2, rfl, oS, -, rE, b3⟩
  have rS := own_rd oS
  have hl1 := serialS_len s x.list
  have hl2 := serialE_len s x.list
  have HES := hide (serialE_small s x.list)
  generalize serialS s x.list = ss at *
  generalize serialE s x.list = es at *
  have k3 := k2.new_ b3
  have hB3 := bthen hB2 b3
  have HX := hide (fun (w' : World) (b : Below w3.heap.size w3 w') => show w'.cell? ⟨w.heap.size, 4, none⟩ = some (.int .i64 x.root) ∧ w'.cell? ⟨w.heap.size, 5, none⟩ = some (.int .i64 x.eff) from ⟨(k3.new_ b).cell 4, (k3.new_ b).cell 5⟩)
  have HRS := hide (fun (w' : World) (b : Below w3.heap.size w3 w') => rS.new b)
  have HRE := hide (fun (w' : World) (b : Below w3.heap.size w3 w') => rE.new eff_good b)
  clear oS rS rE b3 k3 k2 z3 h hs hB2
  have KRT := hide (fun (w' : World) (b : Below w3.heap.size w3 w') => rootOf_impl B1 e1 ss w' (unhide HRS w' b) (by omega))
  have KEF := hide (fun (w' : World) (b : Below w3.heap.size w3 w') => effectsSum_impl B2 e2 es _ w' (unhide HRE w' b) (by omega) (fun z hz => by have := unhide HES z hz; omega))
  clear HRS HRE HES
  generalize rootL ss = r at *
  generalize effsSum es = ef at *
  have hrr : (r == r) = true := by simp
  by_cases hr : x.root = r
  · have HR2 := hide (show blkRightB x s = (x.eff == ef) by rw [unhide HR, hr]; simp)
    clear HR
    rw [hr] at HX
    clear hr
    have hF : StBL [bV (.pointer (some ⟨w.heap.size, 4, none⟩)), bV (.int .i64 r), bV (.slice B1 ss.length e1), bV (.int .i64 r), bV (.bool true), bV (.bool true), bV (.pointer (some ⟨w.heap.size, 5, none⟩)), bV (.int .i64 x.eff), bV (.slice B2 es.length e2), bV (.int .i64 ef)] :=
      ⟨sb_V _, sb_V _, sb_V _, sb_V _, sb_V _, sb_V _, sb_V _, sb_V _, sb_V _, sb_V _, trivial⟩
    go_upto_region 4 with fail
    refine wp_region_loc (by kernel_rfl) [(0, some 22), (1, some 23), (2, some 24), (3, some 25), (4, some 26), (5, some 27), (6, some 28), (7, some 29), (8, some 30), (9, some 31)] [[], [(0, some 22)], [], [(2, some 24)], [(1, some 23), (3, some 25)], [(4, some 26)], [(5, some 27)], [(5, some 27), (6, some 28)], [(5, some 27)], [(5, some 27), (8, some 30)]] (by kernel_rfl)
      (locB _) (fun a b => Below a.heap.size a b) noR [0, 0, 0, 0, 0, 0, 0, 0, 0, 0] 0 (by kernel_rfl) (fun _ => Below.refl _ _) (fun _ _ _ => bthen) (locB_st hF _) trivial ?_ ?_
    · refine steps_cons ?s0 ( steps_cons ?s1 ( steps_cons ?s2 ( steps_cons ?s3 ( steps_cons ?s4 ( steps_cons ?s5 ( steps_cons ?s6 ( steps_cons ?s7 ( steps_cons ?s8 ( steps_cons ?s9 steps_nil)))))))))
      case s0 =>
        intro w' m' hE hR
        intro Q hQ
        go_wp2
        exact hQ _ _ _ rfl rfl (Below.refl _ _) trivial
      case s1 =>
        intro w' m' hE hR
        rintro _ rfl Q hQ
        have bb := below_undrew hE
        obtain ⟨y0, y1⟩ := unhide HX w' bb
        go_wp2
        exact hQ _ _ _ rfl rfl (Below.refl _ _) trivial
      case s2 =>
        intro w' m' hE hR
        intro Q hQ
        go_wp2
        exact hQ _ _ _ rfl rfl (Below.refl _ _) trivial
      case s3 =>
        intro w' m' hE hR
        rintro _ rfl Q hQ
        have bb := below_undrew hE
        go_wp2_with fail
        refine (unhide KRT w' bb).mono ?_
        rintro e w5 ⟨rfl, b5⟩
        go_wp2
        exact hQ _ _ _ rfl rfl b5 trivial
      case s4 =>
        intro w' m' hE hR
        rintro _ rfl _ rfl Q hQ
        go_wp2
        exact hQ _ _ _ rfl rfl (Below.refl _ _) trivial
      case s5 =>
        intro w' m' hE hR
        rintro _ rfl Q hQ
        go_wp2
        exact hQ _ _ _ rfl rfl (Below.refl _ _) trivial
      case s6 =>
        intro w' m' hE hR
        rintro _ rfl Q hQ
        go_wp2
        exact hQ _ _ _ rfl rfl (Below.refl _ _) trivial
      case s7 =>
        intro w' m' hE hR
        rintro _ rfl _ rfl Q hQ
        have bb := below_undrew hE
        obtain ⟨y0, y1⟩ := unhide HX w' bb
        go_wp2
        exact hQ _ _ _ rfl rfl (Below.refl _ _) trivial
      case s8 =>
        intro w' m' hE hR
        rintro _ rfl Q hQ
        go_wp2
        exact hQ _ _ _ rfl rfl (Below.refl _ _) trivial
      case s9 =>
        intro w' m' hE hR
        rintro _ rfl _ rfl Q hQ
        have bb := below_undrew hE
        go_wp2_with fail
        refine (unhide KEF w' bb).mono ?_
        rintro e w5 ⟨rfl, b5⟩
        go_wp2
        exact hQ _ _ _ rfl rfl b5 trivial
    intro w9 hE _
    rintro v0 - v1 - v2 - v3 - v4 - v5 hv5 v6 - v7 hv7 v8 - v9 hv9
    obtain rfl : v5 = _ := hv5
    obtain rfl : v7 = _ := hv7
    obtain rfl : v9 = _ := hv9
    change wpList _ _ _ [_, _, _] _ _
    simp only [Act.put, List.setIfInBounds_toArray, List.set_cons_succ, List.set_cons_zero]
    have b9 := below_undrew hE
    clear hE hF
    go_wp2
    go_ret
    exact ⟨retb (unhide HR2).symm, bthen hB3 b9⟩
  · have HR2 := hide (show blkRightB x s = false by rw [unhide HR]; simp [hr])
    have hr2 : (x.root == r) = false := by simp [hr]
    clear HR
    have hF : StBL [bV (.pointer (some ⟨w.heap.size, 4, none⟩)), bV (.int .i64 x.root), bV (.slice B1 ss.length e1), bV (.int .i64 r), bV (.bool false), bV (.bool false), pV (fun _ => True), pV (fun _ => True), pV (fun _ => True), pV (fun _ => True)] :=
      ⟨sb_V _, sb_V _, sb_V _, sb_V _, sb_V _, sb_V _, fun _ _ _ _ h => h, fun _ _ _ _ h => h, fun _ _ _ _ h => h, fun _ _ _ _ h => h, trivial⟩
    go_upto_region 4 with fail
    refine wp_region_loc (by kernel_rfl) [(0, some 22), (1, some 23), (2, some 24), (3, some 25), (4, some 26), (5, some 27), (6, some 28), (7, some 29), (8, some 30), (9, some 31)] [[], [(0, some 22)], [], [(2, some 24)], [(1, some 23), (3, some 25)], [(4, some 26)], [(5, some 27)], [(5, some 27), (6, some 28)], [(5, some 27)], [(5, some 27), (8, some 30)]] (by kernel_rfl)
      (locB _) (fun a b => Below a.heap.size a b) noR [0, 0, 0, 0, 0, 0, 0, 0, 0, 0] 0 (by kernel_rfl) (fun _ => Below.refl _ _) (fun _ _ _ => bthen) (locB_st hF _) trivial ?_ ?_
    · refine steps_cons ?s0 ( steps_cons ?s1 ( steps_cons ?s2 ( steps_cons ?s3 ( steps_cons ?s4 ( steps_cons ?s5 ( steps_cons ?s6 ( steps_cons ?s7 ( steps_cons ?s8 ( steps_cons ?s9 steps_nil)))))))))
      case s0 =>
        intro w' m' hE hR
        intro Q hQ
        go_wp2
        exact hQ _ _ _ rfl rfl (Below.refl _ _) trivial
      case s1 =>
        intro w' m' hE hR
        rintro _ rfl Q hQ
        have bb := below_undrew hE
        obtain ⟨y0, y1⟩ := unhide HX w' bb
        go_wp2
        exact hQ _ _ _ rfl rfl (Below.refl _ _) trivial
      case s2 =>
        intro w' m' hE hR
        intro Q hQ
        go_wp2
        exact hQ _ _ _ rfl rfl (Below.refl _ _) trivial
      case s3 =>
        intro w' m' hE hR
        rintro _ rfl Q hQ
        have bb := below_undrew hE
        go_wp2_with fail
        refine (unhide KRT w' bb).mono ?_
        rintro e w5 ⟨rfl, b5⟩
        go_wp2
        exact hQ _ _ _ rfl rfl b5 trivial
      case s4 =>
        intro w' m' hE hR
        rintro _ rfl _ rfl Q hQ
        go_wp2
        exact hQ _ _ _ rfl rfl (Below.refl _ _) trivial
      case s5 =>
        intro w' m' hE hR
        rintro _ rfl Q hQ
        go_wp2
        exact hQ _ _ _ rfl rfl (Below.refl _ _) trivial
      case s6 =>
        intro w' m' hE hR
        rintro _ rfl Q hQ
        go_wp2
        exact hQ undef _ _ rfl trivial (Below.refl _ _) trivial
      case s7 =>
        intro w' m' hE hR
        rintro _ rfl _ - Q hQ
        go_wp2
        exact hQ undef _ _ rfl trivial (Below.refl _ _) trivial
      case s8 =>
        intro w' m' hE hR
        rintro _ rfl Q hQ
        go_wp2
        exact hQ undef _ _ rfl trivial (Below.refl _ _) trivial
      case s9 =>
        intro w' m' hE hR
        rintro _ rfl _ - Q hQ
        go_wp2
        exact hQ undef _ _ rfl trivial (Below.refl _ _) trivial
    intro w9 hE _
    rintro v0 - v1 - v2 - v3 - v4 - v5 hv5 v6 - v7 - v8 - v9 -
    obtain rfl : v5 = _ := hv5
    change wpList _ _ _ [_, _, _] _ _
    simp only [Act.put, List.setIfInBounds_toArray, List.set_cons_succ, List.set_cons_zero]
    have b9 := below_undrew hE
    clear hE hF
    go_wp2
    go_ret
    exact ⟨retb (unhide HR2).symm, bthen hB3 b9⟩
set_option maxRecDepth 100000 in
set_option maxHeartbeats 2000000 in
theorem rightBlocks_impl (t : Tr) (A1 : Option Addr) (c1 : Nat) (A2 : Option Addr) (c2 : Nat) (A3 : Option Addr) (c3 : Nat) (w : World) (h : TrR w t A1 A2 A3) (hv : treeB t = true) (hb1 : t.base.length ≤ 1099511627776) (hb2 : t.blocks.length ≤ 1099511627776) (hbs : ∀ x ∈ t.blocks, x.list.length ≤ 1099511627776) (hb3 : t.before.length ≤ 1099511627776) :
    Calls Tryz.prog 18 #[.agg (trA t A1 c1 A2 c2 A3 c3)] w fun e w' => ∃ A' c', e = .returned (.slice A' t.blocks.length c') ∧ w'.ownsRow w.heap.size 4 1 (.slice A' t.blocks.length c') t.blocks.length ((rightN t t.blocks.length).map .bool) ∧ Below w.heap.size w w' := by
  have HBS := hide hbs
  clear hbs
  have HV := hide hv
  obtain ⟨W, hW⟩ : ∃ W : World, W = w.alloc (.cells (trA t A1 c1 A2 c2 A3 c3) 27) := ⟨_, rfl⟩
  have hb0 : Below w.heap.size w W := by rw [hW]; exact (Below.refl _ _).alloc (Nat.le_refl _) _
  have K0 : Blk W w.heap.size 27 (trA t A1 c1 A2 c2 A3 c3) := by rw [hW]; exact Blk.new _ _ _
  have HR := hide (fun w' (hb : Below W.heap.size W w') => h.new (bthen hb0 hb))
  have hWs : w.heap.size < W.heap.size := K0.lt
  have BX := hide (fun w' (hb : Below W.heap.size W w') => show w'.cell? ⟨w.heap.size, 0, none⟩ = some (.slice A1 t.base.length c1) ∧ w'.cell? ⟨w.heap.size, 1, none⟩ = some (.slice A2 t.blocks.length c2) ∧ w'.cell? ⟨w.heap.size, 2, none⟩ = some (.slice A3 t.before.length c3) from ⟨(K0.new_ hb).cell 0, (K0.new_ hb).cell 1, (K0.new_ hb).cell 2⟩)
  have KV := treeValid_impl t A1 c1 A2 c2 A3 c3 W (unhide HR _ (Below.refl _ _)) hb1 hb2 (unhide HBS) hb3
  rw [hv] at KV
  have HA := hide (fun w' (hb : Below W.heap.size W w') (k : Nat) (hk : k < t.blocks.length) => ahead_impl t A1 c1 A2 c2 A3 c3 k w' (unhide HR w' hb) (unhide HV) hk)
  have HBL := hide (treeB_yes hv).2.2.2.1
  have hb14 : t.blocks.length ≤ 14 := (treeB_yes hv).2.2.1
  obtain ⟨x0, x1, x2⟩ := unhide BX W (Below.refl _ _)
  simp only [trA] at K0 hW KV HA ⊢
  clear h K0 hv
  go_enter Tryz.func18, Tryz.ntmps18
  go_wp2_with fail
  rw [← hW]
  clear hW
  refine KV.mono ?_
  rintro e w3 ⟨rfl, b3⟩
  clear KV x0 x1 x2
  obtain ⟨z0, z1, z2⟩ := unhide BX w3 b3
  have hB3 := bthen hb0 b3
  go_wp2
  go_loopw [3, 4, 5, 6, 13] (fun r _ _ _ i wr => ∃ (k : Nat) (A' : Option Addr) (c' : Nat), k ≤ t.blocks.length ∧ i = .int .i64 k ∧ r = .slice A' k c' ∧ wr.ownsRow W.heap.size 4 1 (.slice A' k c') k ((rightN t k).map .bool) ∧ Below W.heap.size W wr) (fun _ _ _ _ i _ => t.blocks.length - (intOf i).toNat)
  case atStart => exact ⟨0, none, 0, Nat.zero_le _, rfl, rfl, own_nil _ _ _ _, b3⟩
  case round =>
    clear b3 hB3 z0 z1 z2
    obtain ⟨k, A', c', hk, rfl, rfl, hown, hB⟩ := hrel
    by_cases hlt : k < t.blocks.length
    · have i1 : (k : Int) < (t.blocks.length : Int) := by omega
      have hbw := bthen hb0 hB
      obtain ⟨y0, y1, y2⟩ := unhide BX wr hB
      obtain ⟨bq, offq, L1, e1, hA2, -, hbb, d0, d1, d2, d3, d4, d5, -, q1⟩ := (unhide HR wr hB).b2.bk hlt
      have hll := unhide HBS t.blocks[k] (List.getElem_mem hlt)
      have HT := hide (show rightN t (k + 1) = rightN t k ++ [blkRightB t.blocks[k] (storeL (aheadV t k)) && (k == 0 || (rightN t k).getD (pAt t k).toNat false)] by rw [rightN, bAt_get t hlt])
      have HAK := hide (fun w' hb => unhide HA w' hb k hlt)
      have hp := pAt_lt (unhide HV) hlt
      have hp0 := hide (fun (h0 : 0 < k) => show 0 ≤ pAt t k from by have := inB_true.1 (by have := (treeB_yes (unhide HV)).2.2.2.2.2.2.2 k h0 hlt; rw [nodeOk, Bool.and_eq_true] at this; exact this.1); omega)
      have hvl := (valOk_ahead (unhide HV) k).1
      have hrl := rightN_len t k
      have hk3 : k < t.before.length := by have := unhide HBL; omega
      obtain ⟨b3, off3, hA3, hb3b, u0⟩ := (unhide HR wr hB).b3.int hk3
      rw [← pAt_get t hk3] at u0
      have q1r : Rd wr L1 (t.blocks[k].list.flatMap encA) := q1.rd
      generalize t.blocks[k] = x at *
      generalize aheadV t k = av at *
      generalize pAt t k = pk at *
      have hstl := storeL_len av
      have HA2 := hide hA2
      have HA3 := hide hA3
      have hown2 := own_alloc hown (.cells #[.int .i64 x.before, .int .i64 x.height, .int .i64 x.view, .slice L1 x.list.length e1, .int .i64 x.root, .int .i64 x.eff] 50)
      have hsw := hbw.size
      have kx := Blk.new wr 50 #[.int .i64 x.before, .int .i64 x.height, .int .i64 x.view, .slice L1 x.list.length e1, .int .i64 x.root, .int .i64 x.eff]
      have bx1 : Below wr.heap.size wr (wr.alloc (.cells #[.int .i64 x.before, .int .i64 x.height, .int .i64 x.view, .slice L1 x.list.length e1, .int .i64 x.root, .int .i64 x.eff] 50)) := (Below.refl _ _).alloc (Nat.le_refl _) _
      have HX := hide (fun (w' : World) (b : Below (wr.alloc (.cells #[.int .i64 x.before, .int .i64 x.height, .int .i64 x.view, .slice L1 x.list.length e1, .int .i64 x.root, .int .i64 x.eff] 50)).heap.size (wr.alloc (.cells #[.int .i64 x.before, .int .i64 x.height, .int .i64 x.view, .slice L1 x.list.length e1, .int .i64 x.root, .int .i64 x.eff] 50)) w') => show (w'.cell? ⟨wr.heap.size, 0, none⟩ = some (.int .i64 x.before) ∧ w'.cell? ⟨wr.heap.size, 1, none⟩ = some (.int .i64 x.height) ∧ w'.cell? ⟨wr.heap.size, 2, none⟩ = some (.int .i64 x.view) ∧ w'.cell? ⟨wr.heap.size, 3, none⟩ = some (.slice L1 x.list.length e1) ∧ w'.cell? ⟨wr.heap.size, 4, none⟩ = some (.int .i64 x.root) ∧ w'.cell? ⟨wr.heap.size, 5, none⟩ = some (.int .i64 x.eff)) ∧ (w'.cell? ⟨w.heap.size, 0, none⟩ = some (.slice A1 t.base.length c1) ∧ w'.cell? ⟨w.heap.size, 1, none⟩ = some (.slice A2 t.blocks.length c2) ∧ w'.cell? ⟨w.heap.size, 2, none⟩ = some (.slice A3 t.before.length c3)) ∧ w'.cell? ⟨b3, off3 + k, none⟩ = some (.int .i64 pk) ∧ Rd w' L1 (x.list.flatMap encA) ∧ w'.ownsRow W.heap.size 4 1 (.slice A' k c') k ((rightN t k).map .bool) ∧ Below W.heap.size W w' from by
        have b1 := bthen bx1 b
        exact ⟨⟨(kx.new_ b).cell 0, (kx.new_ b).cell 1, (kx.new_ b).cell 2, (kx.new_ b).cell 3, (kx.new_ b).cell 4, (kx.new_ b).cell 5⟩, unhide BX w' (bthen hB b1), (b1.cell (p := ⟨b3, off3 + k, none⟩) hb3b).trans u0, q1r.new b1, own_new hown2 b, bthen hB b1⟩)
      rw [unhide HA2]
      clear hown hown2 hA2 hA3 u0 q1 q1r kx bx1
      go_wp2
      have hF : StBL [bV (.agg #[.int .i64 x.before, .int .i64 x.height, .int .i64 x.view, .slice L1 x.list.length e1, .int .i64 x.root, .int .i64 x.eff]), bV (.agg #[.slice A1 t.base.length c1, .slice A2 t.blocks.length c2, .slice A3 t.before.length c3]), bV (.int .i64 (k : Int)), bV (.agg (vA av)), bEnts (storeL av)] :=
        ⟨sb_V _, sb_V _, sb_V _, sb_V _, sb_Ents _, trivial⟩
      go_upto_region 7 with fail
      refine wp_region_loc (by kernel_rfl) [(0, some 18), (1, some 19), (2, some 20), (3, some 21), (4, some 22)] [[], [], [], [(1, some 19), (2, some 20)], [(3, some 21)]] (by kernel_rfl)
        (locB _) (fun a b => Below a.heap.size a b) noR [0, 0, 0, 0, 0] 0 (by kernel_rfl) (fun _ => Below.refl _ _) (fun _ _ _ => bthen) (locB_st hF _) trivial ?_ ?_
      · refine steps_cons ?s0 ( steps_cons ?s1 ( steps_cons ?s2 ( steps_cons ?s3 ( steps_cons ?s4 steps_nil))))
        case s0 =>
          intro w' m' hE hR
          intro Q hQ
          obtain ⟨⟨s0, s1, s2, s3, s4, s5⟩, ⟨s6, s7, s8⟩, s9, s10, s11, s12⟩ := unhide HX w' (below_undrew hE)
          go_wp2
          exact hQ _ _ _ rfl rfl (Below.refl _ _) trivial
        case s1 =>
          intro w' m' hE hR
          intro Q hQ
          obtain ⟨⟨s0, s1, s2, s3, s4, s5⟩, ⟨s6, s7, s8⟩, s9, s10, s11, s12⟩ := unhide HX w' (below_undrew hE)
          go_wp2
          exact hQ _ _ _ rfl rfl (Below.refl _ _) trivial
        case s2 =>
          intro w' m' hE hR
          intro Q hQ
          go_wp2
          exact hQ _ _ _ rfl rfl (Below.refl _ _) trivial
        case s3 =>
          intro w' m' hE hR
          rintro _ rfl _ rfl Q hQ
          obtain ⟨⟨s0, s1, s2, s3, s4, s5⟩, ⟨s6, s7, s8⟩, s9, s10, s11, s12⟩ := unhide HX w' (below_undrew hE)
          go_wp2_with fail
          refine (unhide HAK w' s12).mono ?_
          rintro e w5 ⟨rfl, b5⟩
          go_wp2
          exact hQ _ _ _ rfl rfl b5 trivial
        case s4 =>
          intro w' m' hE hR
          rintro _ rfl Q hQ
          go_wp2_with fail
          refine (store_any av w' hvl).mono ?_
          rintro e w5 ⟨A5, c5, rfl, o5, b5⟩
          go_wp2
          exact hQ _ _ _ rfl ⟨A5, c5, rfl, own_rd o5⟩ b5 trivial
      intro w9 hE _
      rintro v0 hv0 v1 - v2 - v3 - v4 ⟨A5, c5, rfl, r5⟩
      obtain rfl : v0 = _ := hv0
      change wpList _ _ _ [_, _] _ _
      simp only [Act.put, List.setIfInBounds_toArray, List.set_cons_succ, List.set_cons_zero]
      have b9 := below_undrew hE
      clear hE hF
      obtain ⟨⟨s0, s1, s2, s3, s4, s5⟩, ⟨s6, s7, s8⟩, s9, s10, s11, s12⟩ := unhide HX w9 b9
      go_wp2_with fail
      refine (blockRight_impl x L1 e1 A5 c5 (storeL av) w9 s10 (by omega) r5 (by omega)).mono ?_
      rintro e w10 ⟨rfl, b10⟩
      obtain ⟨-, ⟨s6, s7, s8⟩, s9, -, o10, b10'⟩ := unhide HX w10 (bthen b9 b10)
      clear r5 b9 b10 HX s0 s1 s2 s3 s4 s5 s10 s11 s12
      have hs10 : W.heap.size ≤ w10.heap.size := b10'.size
      have hrg := own_rng o10
      generalize blkRightB x (storeL av) = rb at *
      have fin : ∀ (b : Bool) (A8 : Option Addr) (c8 : Nat) (w8 : World), b = (rb && (k == 0 || (rightN t k).getD pk.toNat false)) → w8.ownsRow W.heap.size 4 1 (.slice A8 (k + 1) c8) (k + 1) ((rightN t k).map .bool ++ [.bool b]) → w8.ownsRow W.heap.size 4 1 (.slice A8 (k + 1) c8) (k + 1) ((rightN t (k + 1)).map .bool) := fun b A8 c8 w8 hb ho => by rw [unhide HT, List.map_append, ← hb]; exact ho
      have FIN := hide fin
      clear fin
      cases rb
      · skip
        go_wp2_with (at_builtin; refine wpList_app rfl (.tmp 24) (.tmp 40) 45 rfl el_bool rfl (own_alloc o10 _) rfl (rd_lit w10 [.bool false] _) rfl (one_bools [false]) (by simp only [maxLen]; omega) (by omega) (by simp; omega) ?_; intro A8 c8 w8 o8 ch8 d8 _)
        have hB8 := (b10'.alloc b10'.size (.cells #[.bool false] 4)).trans (ch8.below (fun q hq e => by have := hrg q e; omega) (by simp; omega))
        go_roundw
        case rel => exact ⟨k + 1, A8, c8, by omega, by go_num, rfl, unhide FIN false A8 c8 w8 (by simp) (by simpa using o8), hB8⟩
        case measure => simp [intOf]; omega
      by_cases hz : k = 0
      · have hkz : ((k : Int) == 0) = true := by simp; exact hz
        have HZ0 := hide hz
        clear hz
        go_wp2_with (at_builtin; refine wpList_app rfl (.tmp 24) (.tmp 40) 45 rfl el_bool rfl (own_alloc o10 _) rfl (rd_lit w10 [.bool true] _) rfl (one_bools [true]) (by simp only [maxLen]; omega) (by omega) (by simp; omega) ?_; intro A8 c8 w8 o8 ch8 d8 _)
        have hB8 := (b10'.alloc b10'.size (.cells #[.bool true] 4)).trans (ch8.below (fun q hq e => by have := hrg q e; omega) (by simp; omega))
        go_roundw
        case rel => exact ⟨k + 1, A8, c8, by omega, by go_num, rfl, unhide FIN true A8 c8 w8 (by simp [unhide HZ0]) (by simpa using o8), hB8⟩
        case measure => simp [intOf]; omega
      have hkz : ((k : Int) == 0) = false := by simp; exact hz
      have hkz2 : ¬ (k : Int) = 0 := by omega
      have hpk := unhide hp0 (by omega)
      obtain ⟨q, rfl⟩ := Int.eq_ofNat_of_zero_le hpk
      have hqk : q < k := by omega
      have hqk2 : (q : Int) < (k : Int) := by omega
      obtain ⟨g, hg, hg1, hg2⟩ := own_addr o10 (by omega)
      subst hg
      have hcl : w10.cell? ⟨g, q, none⟩ = some (.bool ((rightN t k).getD q false)) := by rw [own_cell o10 q (by simp [hrl]; omega)]; simp [List.getD_eq_getElem?_getD, hrl, hqk]
      rw [unhide HA3] at s8
      have HZ := hide hz
      clear hz
      have HGB := hide (show ∀ z, z = (rightN t k).getD q false → z = (true && (k == 0 || (rightN t k).getD (q : Int).toNat false)) from fun z hz2 => by rw [hz2]; simp [unhide HZ])
      generalize hgb : (rightN t k).getD q false = gb at *
      have HGC := hide hgb
      clear hgb
      go_wp2_with (at_builtin; refine wpList_app rfl (.tmp 24) (.tmp 40) 45 rfl el_bool rfl (own_alloc o10 _) rfl (rd_lit w10 [.bool gb] _) rfl (one_bools [gb]) (by simp only [maxLen]; omega) (by omega) (by simp; omega) ?_; intro A8 c8 w8 o8 ch8 d8 _)
      have hB8 := (b10'.alloc b10'.size (.cells #[.bool gb] 4)).trans (ch8.below (fun q hq e => by have := hrg q e; omega) (by simp; omega))
      go_roundw
      case rel => exact ⟨k + 1, A8, c8, by omega, by go_num, rfl, unhide FIN gb A8 c8 w8 (unhide HGB gb rfl) (by simpa using o8), hB8⟩
      case measure => simp [intOf]; omega
    · obtain rfl : k = t.blocks.length := by omega
      go_wp2
      go_ret
      exact ⟨A', c', rfl, own_base hown (by omega), bthen hb0 hB⟩
end Go.Proofs.YtefdhlfljpppfaaGreat
namespace Go.Proofs.YtefdhlfljpppfaaGreat
open Go.RowKit
set_option linter.unusedVariables false
set_option linter.unusedSimpArgs false

theorem step_inj {a b x : Int} (ha : 0 ≤ a ∧ a ≤ 1000002) (hb : 0 ≤ b ∧ b ≤ 1000002) (h : sumStep a x = sumStep b x) : a = b := by
  unfold sumStep at h
  omega
theorem step_inj2 {a x y : Int} (hx : 0 ≤ x ∧ x ≤ 1000002) (hy : 0 ≤ y ∧ y ≤ 1000002) (h : sumStep a x = sumStep a y) : x = y := by
  unfold sumStep at h
  omega
theorem step_bd (a x : Int) : 0 ≤ sumStep a x ∧ sumStep a x ≤ 1000002 := by
  unfold sumStep
  omega
theorem node_two (a b : Int) (ha : 0 ≤ a ∧ a ≤ 1000002) (hb : 0 ≤ b ∧ b ≤ 1000002) : nodeS a b = sumStep (sumStep (17 + 2) a) b := by
  unfold nodeS
  rw [sumF_yes rfl (summed_two a b ha hb)]
  rfl
theorem node_inj1 {a b o : Int} (ha : 0 ≤ a ∧ a ≤ 1000002) (hb : 0 ≤ b ∧ b ≤ 1000002) (ho : 0 ≤ o ∧ o ≤ 1000002) (h : nodeS a o = nodeS b o) : a = b := by
  rw [node_two a o ha ho, node_two b o hb ho] at h
  exact step_inj2 ha hb (step_inj (step_bd _ _) (step_bd _ _) h)
theorem node_inj2 {a b o : Int} (ha : 0 ≤ a ∧ a ≤ 1000002) (hb : 0 ≤ b ∧ b ≤ 1000002) (ho : 0 ≤ o ∧ o ≤ 1000002) (h : nodeS o a = nodeS o b) : a = b := by
  rw [node_two o a ho ha, node_two o b ho hb] at h
  exact step_inj2 ha hb h
theorem stepUp_bd {key : Int} {lv : Nat} {s o : Int} (hs : 0 ≤ s ∧ s ≤ 1000002) (ho : 0 ≤ o ∧ o ≤ 1000002) : 0 ≤ stepUp key lv s o ∧ stepUp key lv s o ≤ 1000002 := by
  unfold stepUp
  split
  · exact node_bd _ _ ho hs
  · exact node_bd _ _ hs ho
theorem stepUp_inj {key : Int} {lv : Nat} {a b o : Int} (ha : 0 ≤ a ∧ a ≤ 1000002) (hb : 0 ≤ b ∧ b ≤ 1000002) (ho : 0 ≤ o ∧ o ≤ 1000002) (h : stepUp key lv a o = stepUp key lv b o) : a = b := by
  unfold stepUp at h
  split at h
  · exact node_inj2 ha hb ho h
  · exact node_inj1 ha hb ho h
theorem go_inj {key : Int} : ∀ (os : List Int) (lv : Nat) (a b : Int), 0 ≤ a ∧ a ≤ 1000002 → 0 ≤ b ∧ b ≤ 1000002 → (∀ o ∈ os, 0 ≤ o ∧ o ≤ 1000002) → proofGo key lv a os = proofGo key lv b os → a = b
  | [], _, a, b, _, _, _, h => h
  | o :: os, lv, a, b, ha, hb, ho, h => by
    have h1 := ho o (by simp)
    exact stepUp_inj ha hb h1 (go_inj os (lv + 1) _ _ (stepUp_bd ha h1) (stepUp_bd hb h1) (fun x hx => ho x (by simp [hx])) h)
theorem leafS_two {k v : Int} (hk : inB k 0 31 = true) (hv : inB v 0 1000000 = true) : leafS k v = sumStep (sumStep (17 + 1) k) v := by
  have h1 := inB_true.1 hk
  have h2 := inB_true.1 hv
  unfold leafS
  rw [if_pos ⟨hk, hv⟩, sumF_yes rfl]
  · rfl
  · have h3 : inB k 0 2000000 = true := inB_true.2 (by omega)
    have h4 : inB v 0 2000000 = true := inB_true.2 (by omega)
    simp [summed, h3, h4]
theorem leafS_inv {k v : Int} (h : ¬ leafS k v < 0) : inB k 0 31 = true ∧ inB v 0 1000000 = true := by
  unfold leafS at h
  split at h
  · assumption
  · omega
theorem leafS_inj {k v u : Int} (h1 : ¬ leafS k v < 0) (h2 : ¬ leafS k u < 0) (h : leafS k v = leafS k u) : v = u := by
  obtain ⟨a1, a2⟩ := leafS_inv h1
  obtain ⟨b1, b2⟩ := leafS_inv h2
  rw [leafS_two a1 a2, leafS_two b1 b2] at h
  have := inB_true.1 a2
  have := inB_true.1 b2
  exact step_inj2 (by omega) (by omega) h
/-- one root, one value -/
theorem proof_one {root key v u : Int} {ps : List Int} (h1 : proofR root key v ps = true) (h2 : proofR root key u ps = true) : v = u := by
  simp only [proofR, Bool.and_eq_true, decide_eq_true_eq, beq_iff_eq] at h1 h2
  obtain ⟨hr, h1⟩ := h1
  obtain ⟨-, h2⟩ := h2
  have key1 : ∀ z, proofF key z ps = root → ¬ leafS key z < 0 ∧ sumsB ps = true ∧ proofGo key 0 (leafS key z) ps = root := by
    intro z hz
    unfold proofF at hz
    split at hz
    · omega
    · rename_i hc
      refine ⟨fun h => hc (.inl h), ?_, hz⟩
      cases hs : sumsB ps
      · exact absurd (.inr (.inr hs)) hc
      · rfl
  obtain ⟨a1, a2, a3⟩ := key1 v h1
  obtain ⟨b1, _, b3⟩ := key1 u h2
  have la := leafS_bd key v
  have lb := leafS_bd key u
  refine leafS_inj a1 b1 (go_inj ps 0 _ _ (by omega) (by omega) (fun o ho => ?_) (a3.trans b3.symm))
  obtain ⟨k, hk, rfl⟩ := List.getElem_of_mem ho
  exact sums_get a2 hk
theorem answer_one {b : Bk} {a : Ans} {u : Int} (h1 : answerB b a = true) (h2 : answerB b ⟨a.key, u, a.proof⟩ = true) : a.value = u := by
  simp only [answerB, Bool.and_eq_true] at h1 h2
  exact proof_one h1.2 h2.2
theorem answer_val {b : Bk} {a : Ans} (h : answerB b a = true) : 0 ≤ a.value ∧ a.value ≤ 1000000 := by
  simp only [answerB, Bool.and_eq_true, proofR, decide_eq_true_eq, beq_iff_eq] at h
  obtain ⟨-, hr, h⟩ := h
  unfold proofF at h
  split at h
  · omega
  · rename_i hc
    exact inB_true.1 (leafS_inv (fun h => hc (.inl h))).2
theorem xor_ne (n : Nat) : n ^^^ 1 ≠ n := by
  intro h
  have := congrArg (·.testBit 0) h
  simp at this; omega
theorem go_snoc (key : Int) : ∀ (xs : List Int) (lv : Nat) (s o : Int), proofGo key lv s (xs ++ [o]) = stepUp key (lv + xs.length) (proofGo key lv s xs) o
  | [], lv, s, o => rfl
  | x :: xs, lv, s, o => by
    show proofGo key (lv + 1) _ (xs ++ [o]) = _
    rw [go_snoc key xs (lv + 1), show lv + 1 + xs.length = lv + (x :: xs).length by simp; omega]
    rfl
theorem leafN_get (v : List Int) : ∀ (n k : Nat), k < n → (leafN v n).getD k 0 = leafS (k : Int) (v.getD k 0)
  | 0, k, h => by omega
  | n + 1, k, h => by
    rw [leafN]
    by_cases hk : k < n
    · rw [List.getD_eq_getElem?_getD, List.getElem?_append_left (by rw [leafN_len]; exact hk), ← List.getD_eq_getElem?_getD, leafN_get v n k hk]
    · obtain rfl : k = n := by omega
      rw [List.getD_eq_getElem?_getD, List.getElem?_append_right (by rw [leafN_len]; omega), leafN_len]
      simp
theorem upN_get (xs : List Int) : ∀ (n j : Nat), j < n → (upN xs n).getD j 0 = nodeS (xs.getD (j + j) 0) (xs.getD (j + j + 1) 0)
  | 0, j, h => by omega
  | n + 1, j, h => by
    rw [upN]
    by_cases hj : j < n
    · rw [List.getD_eq_getElem?_getD, List.getElem?_append_left (by rw [upN_len]; exact hj), ← List.getD_eq_getElem?_getD, upN_get xs n j hj]
    · obtain rfl : j = n := by omega
      rw [List.getD_eq_getElem?_getD, List.getElem?_append_right (by rw [upN_len]; omega), upN_len]
      simp [nodeS]
theorem xor_even {m : Nat} (h : m % 2 = 0) : m ^^^ 1 = m + 1 := by
  have h1 : (m ^^^ 1) / 2 = m / 2 := by rw [Nat.xor_div_two]; simp
  have h2 : (m ^^^ 1) % 2 ^ 1 = (m % 2 ^ 1) ^^^ (1 % 2 ^ 1) := Nat.xor_mod_two_pow
  rw [Nat.pow_one, h] at h2
  have h3 : (0 ^^^ 1 % 2) = 1 := rfl
  omega
theorem xor_odd {m : Nat} (h : m % 2 = 1) : m ^^^ 1 = m - 1 := by
  have h1 : (m ^^^ 1) / 2 = m / 2 := by rw [Nat.xor_div_two]; simp
  have h2 : (m ^^^ 1) % 2 ^ 1 = (m % 2 ^ 1) ^^^ (1 % 2 ^ 1) := Nat.xor_mod_two_pow
  rw [Nat.pow_one, h] at h2
  have h3 : (1 ^^^ 1 % 2) = 0 := rfl
  omega
theorem go_prN (v : List Int) (q : Nat) (hq : q < 32) : ∀ n, n ≤ 5 → proofGo (q : Int) 0 (leafS (q : Int) (v.getD q 0)) (prN v q n) = (lvN v n).getD (q / 2 ^ n) 0
  | 0, _ => by
    show leafS _ _ = (leafN v 32).getD (q / 2 ^ 0) 0
    rw [leafN_get v 32 _ (by simpa using hq)]
    simp
  | n + 1, hn => by
    rw [prN, go_snoc, go_prN v q hq n (by omega), prN_len, Nat.zero_add, lvN_up v n (by omega)]
    have hj : q / 2 ^ (n + 1) < 2 ^ (5 - (n + 1)) := by
      rw [Nat.div_lt_iff_lt_mul (Nat.two_pow_pos _), ← Nat.pow_add, show 5 - (n + 1) + (n + 1) = 5 by omega]
      exact hq
    rw [upN_get _ _ _ hj]
    have hm : q / 2 ^ (n + 1) = (q / 2 ^ n) / 2 := by rw [Nat.pow_succ, Nat.div_div_eq_div_mul]
    rw [hm]
    unfold stepUp
    rw [Int.toNat_natCast, Nat.testBit_eq_decide_div_mod_eq]
    generalize q / 2 ^ n = m
    by_cases h : m % 2 = 1
    · rw [if_pos (by simpa using h), xor_odd h, show m / 2 + m / 2 = m - 1 by omega, show m - 1 + 1 = m by omega]
    · rw [if_neg (by simpa using h), xor_even (by omega), show m / 2 + m / 2 = m by omega]
theorem prN_in {v : List Int} (hv : valOk v) (q : Nat) : ∀ n, n ≤ 5 → ∀ z ∈ prN v q n, sumIn z
  | 0, _, z, h => by cases h
  | n + 1, hn, z, h => by
    rw [prN] at h
    rcases List.mem_append.1 h with h | h
    · exact prN_in hv q n (by omega) z h
    · rw [List.mem_singleton] at h
      rw [h]
      exact getD_in (lvN_in hv n) _
/-- the proof of a store leads to its root -/
theorem proof_root {s : List Ent} {key : Int} (hs : storeB s = true) (hk : inB key 0 31 = true) : proofF key (atL s key) (proofL s key) = rootL s := by
  have hkb := inB_true.1 hk
  obtain ⟨q, rfl⟩ := Int.eq_ofNat_of_zero_le hkb.1
  have hq : q < 32 := by omega
  have hv : valOk (valsL s) := valOk_vals (storeB_def _ ▸ hs) (by omega)
  have hg : (valsL s).getD q 0 = atL s (q : Int) := vals_get (storeB_def _ ▸ hs) (by omega) q hq
  have hP : proofL s (q : Int) = prN (valsL s) q 5 := by rw [proofL, if_pos ⟨hs, hk⟩, Int.toNat_natCast]
  have hl := leafS_in hv hq
  rw [hg] at hl
  have hl2 : 0 ≤ leafS (q : Int) (atL s (q : Int)) := hl.1
  have hgo := go_prN (valsL s) q hq 5 (Nat.le_refl _)
  rw [hg] at hgo
  have hsb : sumsB (prN (valsL s) q 5) = true := by
    simp only [sumsB, Bool.not_eq_true', List.any_eq_false, Bool.not_eq_true, Bool.not_eq_false']
    intro z hz
    have := prN_in hv q 5 (Nat.le_refl _) z hz
    simp [inB_true.2 ⟨this.1, this.2⟩]
  rw [proofF, if_neg (by rw [hP, prN_len, hsb]; simp; omega), hP, hgo, rootL, if_pos hs]
  have : q / 2 ^ 5 = 0 := by omega
  rw [this]
/-- a value is in the range -/
theorem atL_in {s : List Ent} {key : Int} (hs : storeB s = true) (hk : inB key 0 31 = true) : 0 ≤ atL s key ∧ atL s key ≤ 1000000 := by
  have hkb := inB_true.1 hk
  obtain ⟨q, rfl⟩ := Int.eq_ofNat_of_zero_le hkb.1
  have hq : q < 32 := by omega
  have hv : valOk (valsL s) := valOk_vals (storeB_def _ ▸ hs) (by omega)
  rw [← vals_get (storeB_def _ ▸ hs) (by omega) q hq]
  exact hv.2 q
end Go.Proofs.YtefdhlfljpppfaaGreat
namespace Go.Proofs.YtefdhlfljpppfaaGreat
open Go.RowKit
set_option linter.unusedVariables false
set_option linter.unusedSimpArgs false

theorem rightN_get (t : Tr) : ∀ (n k : Nat), k < n → (rightN t n).getD k false = (rightN t (k + 1)).getD k false
  | 0, k, h => by omega
  | n + 1, k, h => by
    by_cases hk : k < n
    · rw [rightN, List.getD_eq_getElem?_getD, List.getElem?_append_left (by rw [rightN_len]; exact hk), ← List.getD_eq_getElem?_getD, rightN_get t n k hk]
    · obtain rfl : k = n := by omega
      rfl
/-- a block that is right has the root of its store -/
theorem right_root {t : Tr} (h : treeB t = true) {k : Nat} (hk : k < t.blocks.length) (hr : (rightN t t.blocks.length).getD k false = true) : (bAt t k).root = rootL (storeT t (k : Int)) := by
  rw [rightN_get t _ k hk, rightN, List.getD_eq_getElem?_getD, List.getElem?_append_right (by rw [rightN_len]; omega), rightN_len] at hr
  simp only [Nat.sub_self, List.getElem?_cons_zero, Option.getD_some, Bool.and_eq_true] at hr
  have h1 := hr.1
  unfold blkRightB at h1
  simp only [Bool.and_eq_true, beq_iff_eq] at h1
  obtain ⟨hb, hs, h2, -⟩ := h1
  have hv := valOk_ahead h k
  have hser : serialS (storeL (aheadV t k)) (bAt t k).list = storeL (runAllV (aheadV t k) (bAt t k).list) := by
    rw [serialS, if_pos ⟨hs, blk_acts h hk⟩, vals_store hv]
  rw [h2, hser, storeT_yes h (inB_true.2 (by omega)), after_step h hk]
theorem ask_right {t : Tr} {k : Nat} {key : Int} (hok : askOk t (k : Int) key = true) (hr : (rightN t t.blocks.length).getD k false = true) : answerB (bAt t k) (askA t (k : Int) key) = true := by
  have h := hok
  simp only [askOk, Bool.and_eq_true] at h
  have hi := inB_true.1 h.2.1
  have hst := storeT_ok hok
  have hroot := right_root h.1 (k := k) (by omega) hr
  have hblk := (treeB_yes h.1).2.2.2.2.2.2.1 k (by omega)
  rw [sumOk, Bool.and_eq_true] at hblk
  rw [askA_yes hok]
  simp only [answerB, Bool.and_eq_true, proofR, decide_eq_true_eq, beq_iff_eq]
  refine ⟨hblk.1, ?_, ?_⟩
  · have := hblk.1
    unfold blkB at this
    simp only [Bool.and_eq_true] at this
    exact (inB_true.1 this.2.1).1
  · rw [proof_root hst h.2.2, hroot]
theorem ask_val {t : Tr} {n key : Int} (hok : askOk t n key = true) : (askA t n key).value = valAt (storeT t n) key := by
  have h := hok
  simp only [askOk, Bool.and_eq_true] at h
  rw [askA_yes hok, valAt, if_pos ⟨storeT_ok hok, h.2.2⟩]
theorem info_ansF3 : (Tryz.prog.info? 31).map (·.size) = some 3 := by kernel_rfl
theorem ans3_one3 (a b : Int) (A : Option Addr) (n k : Nat) : (#[Value.int .i64 a, .int .i64 b, .slice A n k]).all (·.oneCell') = true := by
  simp [Value.oneCell']
set_option maxRecDepth 100000 in
set_option maxHeartbeats 8000000 in
theorem law_FnAskBlock (A : Option Addr) (c : Nat) (bs : List Int) (w : World) (h : Rd w A (bs.map (.int .u8))) (hw : ∀ b ∈ bs, 0 ≤ b ∧ b ≤ 255) (hc : bs.length ≤ c) (hm : c ≤ maxLen) :
    Calls Tryz.prog 5 #[.slice A bs.length c] w fun e w' => e = .returned (.bool true) ∧ Below w.heap.size w w' := by
  have hm2 : bs.length ≤ 9223372036854775807 := by simp only [maxLen] at hm; omega
  by_cases hl : (1048576 : Int) < (bs.length : Int)
  · clear hw
    go_enter Tryz.func5, Tryz.ntmps5
    go_wp2
    go_ret
    exact ⟨rfl, Below.refl _ _⟩
  have HW := hide hw
  have HC := hide hc
  have HM := hide hm
  clear hw hc hm
  go_enter Tryz.func5, Tryz.ntmps5
  go_wp2_with fail
  refine (DrawAskBlock_any A c bs w h (unhide HW) (unhide HC) (unhide HM)).mono ?_
  rintro e w1 ⟨t, A1, c1, A2, c2, A3, c3, z, key, rfl, hz, hkl, ⟨hd1, ⟨hd2, hd2'⟩, hd3, hd4⟩, hR1, hB⟩
  clear h hz
  go_wp2_with (refine wpList_store_row rfl 27 (.tmp 3) (.tmp 17) rfl w1.heap.size #[.slice A1 t.base.length c1, .slice A2 t.blocks.length c2, .slice A3 t.before.length c3] rfl rfl 27 #[.slice none 0 0, .slice none 0 0, .slice none 0 0] (box_new w1 27 #[.slice none 0 0, .slice none 0 0, .slice none 0 0] #[.slice A1 t.base.length c1, .slice A2 t.blocks.length c2, .slice A3 t.before.length c3]).1 info_tr rfl (sl3_one _ _ _ _ _ _ _ _ _) ?_; refine at_world (C := fun W => wpList _ _ _ _ _ W) (F := fun W => Blk W w1.heap.size 27 #[.slice A1 t.base.length c1, .slice A2 t.blocks.length c2, .slice A3 t.before.length c3] ∧ Below w1.heap.size w1 W) ⟨(box_new w1 27 #[.slice none 0 0, .slice none 0 0, .slice none 0 0] #[.slice A1 t.base.length c1, .slice A2 t.blocks.length c2, .slice A3 t.before.length c3]).2.1, (box_new w1 27 #[.slice none 0 0, .slice none 0 0, .slice none 0 0] #[.slice A1 t.base.length c1, .slice A2 t.blocks.length c2, .slice A3 t.before.length c3]).2.2⟩ ?_; rintro w2 ⟨kb, b2⟩; obtain ⟨bx, hbx⟩ : ∃ q, q = w1.heap.size := ⟨_, rfl⟩; rw [← hbx] at kb ⊢; have Hbx := hide hbx; clear hbx; have x0 : w2.cell? ⟨bx, 0, none⟩ = some (.slice A1 t.base.length c1) := kb.cell 0; have x1 : w2.cell? ⟨bx, 1, none⟩ = some (.slice A2 t.blocks.length c2) := kb.cell 1; have x2 : w2.cell? ⟨bx, 2, none⟩ = some (.slice A3 t.before.length c3) := kb.cell 2)
  have hbx1 : w.heap.size ≤ bx := by have := hB.size; have := unhide Hbx; omega
  replace hB := bthen hB b2
  have hbl := kb.lt
  have HR := hide (fun (w' : World) (hb : Below w2.heap.size w2 w') => hR1.new (bthen b2 hb))
  have HD4 := hide (fun x (hx : x ∈ t.blocks) => show x.list.length ≤ 1099511627776 by have := hd4 x hx; omega)
  have HX := hide (fun (w' : World) (hb : Below w2.heap.size w2 w') => show (w'.cell? ⟨bx, 0, none⟩ = some (.slice A1 t.base.length c1) ∧ w'.cell? ⟨bx, 1, none⟩ = some (.slice A2 t.blocks.length c2) ∧ w'.cell? ⟨bx, 2, none⟩ = some (.slice A3 t.before.length c3)) from ⟨(kb.new_ hb).cell 0, (kb.new_ hb).cell 1, (kb.new_ hb).cell 2⟩)
  have HAI := hide (fun (w' : World) (hb : Below w2.heap.size w2 w') => ask_impl t A1 c1 A2 c2 A3 c3 z key w' (unhide HR w' hb) (by omega) (by omega) (unhide HD4) (by omega))
  have HAS := hide (fun (w' : World) (hb : Below w2.heap.size w2 w') => ask_spec t A1 c1 A2 c2 A3 c3 z key w' (unhide HR w' hb) (by omega) (by omega) (unhide HD4) (by omega))
  have HST := hide (fun (w' : World) (hb : Below w2.heap.size w2 w') (n : Int) => storeOf_impl t A1 c1 A2 c2 A3 c3 n w' (unhide HR w' hb) (by omega) (by omega) (unhide HD4) (by omega))
  have HRB := hide (fun (w' : World) (hb : Below w2.heap.size w2 w') (hv : treeB t = true) => rightBlocks_impl t A1 c1 A2 c2 A3 c3 w' (unhide HR w' hb) hv (by omega) (by omega) (unhide HD4) (by omega))
  have hpl := askA_len t z key
  have HNO := hide (fun h : askOk t z key = false => askA_no h)
  have HYES := hide (fun h : askOk t z key = true => show treeB t = true ∧ (0 ≤ z ∧ z < t.blocks.length) ∧ (askA t z key).value = valAt (storeT t z) key ∧ ((rightN t t.blocks.length).getD z.toNat false = true → answerB (bAt t z.toNat) (askA t z key) = true) by
    have h2 := h
    simp only [askOk, Bool.and_eq_true] at h2
    have hi := inB_true.1 h2.2.1
    refine ⟨h2.1, by omega, ask_val h, fun hr => ?_⟩
    have hzz : ((z.toNat : Nat) : Int) = z := by omega
    have := ask_right (t := t) (k := z.toNat) (key := key) (by rw [hzz]; exact h) hr
    rw [hzz] at this
    exact this)
  simp only [trA] at HAI HAS HST HRB
  generalize askA t z key = an at *
  generalize hok : askOk t z key = ok at *
  have HOK := hide hok
  clear hok hR1 hd4 kb b2
  refine (unhide HAI w2 (Below.refl _ _)).mono ?_
  rintro e w3 ⟨A7, c7, rfl, o7, b3⟩
  have r73 := own_rd o7
  clear x0 x1 x2 o7
  go_wp2_with (refine wpList_store_row rfl 31 (.tmp 6) (.tmp 25) rfl w3.heap.size #[.int .i64 an.key, .int .i64 an.value, .slice A7 an.proof.length c7] rfl rfl 31 #[.int .i64 0, .int .i64 0, .slice none 0 0] (box_new w3 31 #[.int .i64 0, .int .i64 0, .slice none 0 0] #[.int .i64 an.key, .int .i64 an.value, .slice A7 an.proof.length c7]).1 info_ansF3 rfl (ans3_one3 _ _ _ _ _) ?_; refine at_world (C := fun W => wpList _ _ _ _ _ W) (F := fun W => Blk W w3.heap.size 31 #[.int .i64 an.key, .int .i64 an.value, .slice A7 an.proof.length c7] ∧ Below w3.heap.size w3 W) ⟨(box_new w3 31 #[.int .i64 0, .int .i64 0, .slice none 0 0] #[.int .i64 an.key, .int .i64 an.value, .slice A7 an.proof.length c7]).2.1, (box_new w3 31 #[.int .i64 0, .int .i64 0, .slice none 0 0] #[.int .i64 an.key, .int .i64 an.value, .slice A7 an.proof.length c7]).2.2⟩ ?_; rintro w4 ⟨k4, b4⟩; obtain ⟨ga, hga⟩ : ∃ q, q = w3.heap.size := ⟨_, rfl⟩; rw [← hga] at k4 ⊢; have Hga := hide hga; clear hga; have bxx := bthen b3 b4; obtain ⟨x0, x1, x2⟩ := unhide HX w4 bxx)
  refine (unhide HAS w4 bxx).mono ?_
  rintro e w5 ⟨A8, c8, rfl, o8, b5⟩
  have r85 := own_rd o8
  have r75 := (r73.new b4).new b5
  have k5 := k4.new_ b5
  have b25 := bthen bxx b5
  clear x0 x1 x2 o8 r73 k4 bxx b3 b4 b5
  have hnk : (an.key != an.key) = false := by simp
  have hnv : (an.value != an.value) = false := by simp
  go_wp2_with (refine wpList_store_row rfl 31 (.tmp 8) (.tmp 32) rfl w5.heap.size #[.int .i64 an.key, .int .i64 an.value, .slice A8 an.proof.length c8] rfl rfl 31 #[.int .i64 0, .int .i64 0, .slice none 0 0] (box_new w5 31 #[.int .i64 0, .int .i64 0, .slice none 0 0] #[.int .i64 an.key, .int .i64 an.value, .slice A8 an.proof.length c8]).1 info_ansF3 rfl (ans3_one3 _ _ _ _ _) ?_; refine at_world (C := fun W => wpList _ _ _ _ _ W) (F := fun W => Blk W w5.heap.size 31 #[.int .i64 an.key, .int .i64 an.value, .slice A8 an.proof.length c8] ∧ Below w5.heap.size w5 W) ⟨(box_new w5 31 #[.int .i64 0, .int .i64 0, .slice none 0 0] #[.int .i64 an.key, .int .i64 an.value, .slice A8 an.proof.length c8]).2.1, (box_new w5 31 #[.int .i64 0, .int .i64 0, .slice none 0 0] #[.int .i64 an.key, .int .i64 an.value, .slice A8 an.proof.length c8]).2.2⟩ ?_; rintro w6 ⟨k6, b6⟩; obtain ⟨gb, hgb⟩ : ∃ q, q = w5.heap.size := ⟨_, rfl⟩; rw [← hgb] at k6 ⊢; have Hgb := hide hgb; clear hgb; have k56 := k5.new_ b6; have p0 : w6.cell? ⟨ga, 0, none⟩ = some (.int .i64 an.key) := k56.cell 0; have p1 : w6.cell? ⟨ga, 1, none⟩ = some (.int .i64 an.value) := k56.cell 1; have p2 : w6.cell? ⟨ga, 2, none⟩ = some (.slice A7 an.proof.length c7) := k56.cell 2; have q0 : w6.cell? ⟨gb, 0, none⟩ = some (.int .i64 an.key) := k6.cell 0; have q1 : w6.cell? ⟨gb, 1, none⟩ = some (.int .i64 an.value) := k6.cell 1; have q2 : w6.cell? ⟨gb, 2, none⟩ = some (.slice A8 an.proof.length c8) := k6.cell 2)
  refine (sameInts_any A7 A8 c7 c8 an.proof an.proof w6 (r75.new b6) (r85.new b6) (by omega)).mono ?_
  rintro e w7 ⟨rfl, m7, hw7⟩
  have b67 := below_drewN (Below.refl w6.heap.size w6) m7
  rw [hw7] at b67
  rw [show decide (an.proof = an.proof) = true by simp]
  have b27 := bthen (bthen b25 b6) b67
  have k57 := k56.new_ b67
  have r77 := (r75.new b6).new b67
  clear p0 p1 p2 q0 q1 q2 r75 r85 k5 k6 k56 b6 b25 hw7 b67
  cases ok
  · have hz := unhide HNO rfl
    clear HNO HYES
    subst hz
    have p0 : w7.cell? ⟨ga, 0, none⟩ = some (.int .i64 0) := k57.cell 0
    have p1 : w7.cell? ⟨ga, 1, none⟩ = some (.int .i64 0) := k57.cell 1
    have p2 : w7.cell? ⟨ga, 2, none⟩ = some (.slice A7 0 c7) := k57.cell 2
    go_wp2_with fail
    refine (alive_any w7).mono ?_
    rintro e w8 ⟨rfl, b8⟩
    go_wp2
    go_ret
    exact ⟨rfl, bthen hB (bthen b27 b8)⟩
  obtain ⟨hv, ⟨hz0, hz1⟩, hval, hrt⟩ := unhide HYES rfl
  clear HNO HYES HAI HAS HOK
  obtain ⟨q, rfl⟩ := Int.eq_ofNat_of_zero_le hz0
  have hqn : q < t.blocks.length := by omega
  rw [Int.toNat_natCast, bAt_get t hqn] at hrt
  have HRT := hide hrt
  have HVAL := hide hval
  have HV := hide hv
  clear hrt hval hz0
  obtain ⟨x0, x1, x2⟩ := unhide HX w7 b27
  go_wp2_with fail
  refine (unhide HRB w7 b27 (unhide HV)).mono ?_
  rintro e w8 ⟨AR, cr, rfl, oR, b8⟩
  have b28 := bthen b27 b8
  have k58 := k57.new_ b8
  have r78 := r77.new b8
  have hrl := rightN_len t t.blocks.length
  clear hv
  obtain ⟨gr, hAR, hgr1, hgr2⟩ := own_addr oR (by omega)
  subst hAR
  have hcell : w8.cell? ⟨gr, q, none⟩ = some (.bool ((rightN t t.blocks.length).getD q false)) := by rw [own_cell oR q (by simp [hrl]; omega)]; simp [List.getD_eq_getElem?_getD, hrl, hqn]
  obtain ⟨bq, offq, L1, e1, hA2, -, hbb, d0, d1, d2, d3, d4, d5, -, q1⟩ := (unhide HR w8 b28).b2.bk hqn
  have q1r : Rd w8 L1 (t.blocks[q].list.flatMap encA) := q1.rd
  have hll := unhide HD4 t.blocks[q] (List.getElem_mem hqn)
  have hsl := storeT_len t (q : Int)
  have HSTQ := hide (fun (w' : World) (hb : Below w2.heap.size w2 w') => unhide HST w' hb (q : Int))
  generalize t.blocks[q] = x at *
  generalize storeT t (q : Int) = st at *
  have HA2 := hide hA2
  have HX8 := hide (fun (w' : World) (b : Below w8.heap.size w8 w') => show (w'.cell? ⟨bq, offq + q * 6, none⟩ = some (.int .i64 x.before) ∧ w'.cell? ⟨bq, offq + q * 6 + 1, none⟩ = some (.int .i64 x.height) ∧ w'.cell? ⟨bq, offq + q * 6 + 2, none⟩ = some (.int .i64 x.view) ∧ w'.cell? ⟨bq, offq + q * 6 + 3, none⟩ = some (.slice L1 x.list.length e1) ∧ w'.cell? ⟨bq, offq + q * 6 + 4, none⟩ = some (.int .i64 x.root) ∧ w'.cell? ⟨bq, offq + q * 6 + 5, none⟩ = some (.int .i64 x.eff)) ∧ (w'.cell? ⟨bx, 0, none⟩ = some (.slice A1 t.base.length c1) ∧ w'.cell? ⟨bx, 1, none⟩ = some (.slice A2 t.blocks.length c2) ∧ w'.cell? ⟨bx, 2, none⟩ = some (.slice A3 t.before.length c3)) ∧ (w'.cell? ⟨ga, 0, none⟩ = some (.int .i64 an.key) ∧ w'.cell? ⟨ga, 1, none⟩ = some (.int .i64 an.value) ∧ w'.cell? ⟨ga, 2, none⟩ = some (.slice A7 an.proof.length c7)) ∧ w'.cell? ⟨gr, q, none⟩ = some (.bool ((rightN t t.blocks.length).getD q false)) ∧ Rd w' L1 (x.list.flatMap encA) ∧ Rd w' A7 (an.proof.map (.int .i64)) ∧ Below w2.heap.size w2 w' from
    ⟨⟨(b.cell (p := ⟨bq, offq + q * 6, none⟩) hbb).trans d0, (b.cell (p := ⟨bq, offq + q * 6 + 1, none⟩) hbb).trans d1, (b.cell (p := ⟨bq, offq + q * 6 + 2, none⟩) hbb).trans d2, (b.cell (p := ⟨bq, offq + q * 6 + 3, none⟩) hbb).trans d3, (b.cell (p := ⟨bq, offq + q * 6 + 4, none⟩) hbb).trans d4, (b.cell (p := ⟨bq, offq + q * 6 + 5, none⟩) hbb).trans d5⟩, unhide HX w' (bthen b28 b), ⟨(k58.new_ b).cell 0, (k58.new_ b).cell 1, (k58.new_ b).cell 2⟩, (b.cell (p := ⟨gr, q, none⟩) hgr2).trans hcell, q1r.new b, r78.new b, bthen b28 b⟩)
  clear hcell hA2 d0 d1 d2 d3 d4 d5 q1 q1r k57 k58 r77 r78 x0 x1 x2 oR b27 b8
  generalize (rightN t t.blocks.length).getD q false = rb at *
  have hqi : (q : Int) < (t.blocks.length : Int) := by omega
  have HB28 := hide (bthen hB b28)
  clear hB b28
  cases rb
  · have hF : StBL [bV (.int .i64 (q : Int)), bV (.slice (some ⟨gr, 0, none⟩) t.blocks.length cr), bV (.int .i64 (t.blocks.length : Int)), bV (.bool true), bV (.bool true), bV (.slice (some ⟨gr, 0, none⟩) t.blocks.length cr), bV (.int .i64 (q : Int)), bV (.pointer (some ⟨gr, q, none⟩)), bV (.bool false), bV (.bool true), bV (.bool true), pV (fun _ => True), pV (fun _ => True), pV (fun _ => True), pV (fun _ => True), pV (fun _ => True), pV (fun _ => True), pV (fun _ => True), bV (.bool true), bV (.bool true), bV (.bool true), bV (.pointer (some ⟨ga, 1, none⟩)), bV (.int .i64 an.value), bV (.agg #[.slice A1 t.base.length c1, .slice A2 t.blocks.length c2, .slice A3 t.before.length c3]), bV (.int .i64 (q : Int)), bEnts st, bV (.int .i64 key), bV (.int .i64 (valAt st key))] :=
      ⟨sb_V _, sb_V _, sb_V _, sb_V _, sb_V _, sb_V _, sb_V _, sb_V _, sb_V _, sb_V _, sb_V _, fun _ _ _ _ h => h, fun _ _ _ _ h => h, fun _ _ _ _ h => h, fun _ _ _ _ h => h, fun _ _ _ _ h => h, fun _ _ _ _ h => h, fun _ _ _ _ h => h, sb_V _, sb_V _, sb_V _, sb_V _, sb_V _, sb_V _, sb_V _, sb_Ents _, sb_V _, sb_V _, trivial⟩
    go_upto_region 11 with fail
    refine wp_region_loc (by kernel_rfl) [(0, some 80), (1, some 81), (2, some 82), (3, some 83), (4, some 84), (5, some 85), (6, some 86), (7, some 87), (8, some 88), (9, some 89), (10, some 90), (11, some 91), (12, some 92), (13, some 93), (14, some 94), (15, some 95), (16, some 96), (17, some 97), (18, some 98), (19, some 99), (20, some 100), (21, some 101), (22, some 102), (23, some 103), (24, some 104), (25, some 105), (26, some 106), (27, some 107)] [[], [], [(1, some 81)], [(0, some 80), (2, some 82)], [(3, some 83)], [(4, some 84)], [(4, some 84)], [(4, some 84), (5, some 85), (6, some 86)], [(4, some 84), (7, some 87)], [(4, some 84), (8, some 88)], [(4, some 84), (9, some 89)], [(10, some 90)], [(10, some 90), (11, some 91)], [(10, some 90)], [(10, some 90), (12, some 92), (13, some 93)], [(10, some 90), (14, some 94)], [(10, some 90)], [(10, some 90), (15, some 95), (16, some 96)], [(4, some 84), (10, some 90), (17, some 97)], [(4, some 84), (18, some 98)], [(19, some 99)], [(20, some 100)], [(20, some 100), (21, some 101)], [(20, some 100)], [(20, some 100)], [(20, some 100), (23, some 103), (24, some 104)], [(20, some 100)], [(20, some 100), (25, some 105), (26, some 106)]] (by kernel_rfl)
      (locB _) (fun a b => Below a.heap.size a b) noR [0, 0, 0, 0, 0, 0, 0, 0, 0, 0, 0, 0, 0, 0, 0, 0, 0, 0, 0, 0, 0, 0, 0, 0, 0, 0, 0, 0] 0 (by kernel_rfl) (fun _ => Below.refl _ _) (fun _ _ _ => bthen) (locB_st hF _) trivial ?_ ?_
    · refine steps_cons ?s0 ( steps_cons ?s1 ( steps_cons ?s2 ( steps_cons ?s3 ( steps_cons ?s4 ( steps_cons ?s5 ( steps_cons ?s6 ( steps_cons ?s7 ( steps_cons ?s8 ( steps_cons ?s9 ( steps_cons ?s10 ( steps_cons ?s11 ( steps_cons ?s12 ( steps_cons ?s13 ( steps_cons ?s14 ( steps_cons ?s15 ( steps_cons ?s16 ( steps_cons ?s17 ( steps_cons ?s18 ( steps_cons ?s19 ( steps_cons ?s20 ( steps_cons ?s21 ( steps_cons ?s22 ( steps_cons ?s23 ( steps_cons ?s24 ( steps_cons ?s25 ( steps_cons ?s26 ( steps_cons ?s27 steps_nil)))))))))))))))))))))))))))
      case s0 =>
        intro w' m' hE hR
        intro Q hQ
        go_wp2
        exact hQ _ _ _ rfl rfl (Below.refl _ _) trivial
      case s1 =>
        intro w' m' hE hR
        intro Q hQ
        go_wp2
        exact hQ _ _ _ rfl rfl (Below.refl _ _) trivial
      case s2 =>
        intro w' m' hE hR
        rintro _ rfl Q hQ
        go_wp2
        exact hQ _ _ _ rfl rfl (Below.refl _ _) trivial
      case s3 =>
        intro w' m' hE hR
        rintro _ rfl _ rfl Q hQ
        go_wp2
        exact hQ _ _ _ rfl rfl (Below.refl _ _) trivial
      case s4 =>
        intro w' m' hE hR
        rintro _ rfl Q hQ
        go_wp2
        exact hQ _ _ _ rfl rfl (Below.refl _ _) trivial
      case s5 =>
        intro w' m' hE hR
        rintro _ rfl Q hQ
        go_wp2
        exact hQ _ _ _ rfl rfl (Below.refl _ _) trivial
      case s6 =>
        intro w' m' hE hR
        rintro _ rfl Q hQ
        go_wp2
        exact hQ _ _ _ rfl rfl (Below.refl _ _) trivial
      case s7 =>
        intro w' m' hE hR
        rintro _ rfl _ rfl _ rfl Q hQ
        go_wp2
        exact hQ _ _ _ rfl rfl (Below.refl _ _) trivial
      case s8 =>
        intro w' m' hE hR
        rintro _ rfl _ rfl Q hQ
        obtain ⟨⟨s0, s1, s2, s3, s4, s5⟩, ⟨s6, s7, s8⟩, ⟨s9, s10, s11⟩, s12, s13, s14, s15⟩ := unhide HX8 w' (below_undrew hE)
        go_wp2
        exact hQ _ _ _ rfl rfl (Below.refl _ _) trivial
      case s9 =>
        intro w' m' hE hR
        rintro _ rfl _ rfl Q hQ
        go_wp2
        exact hQ _ _ _ rfl rfl (Below.refl _ _) trivial
      case s10 =>
        intro w' m' hE hR
        rintro _ rfl _ rfl Q hQ
        go_wp2
        exact hQ _ _ _ rfl rfl (Below.refl _ _) trivial
      case s11 =>
        intro w' m' hE hR
        rintro _ rfl Q hQ
        go_wp2
        exact hQ undef _ _ rfl trivial (Below.refl _ _) trivial
      case s12 =>
        intro w' m' hE hR
        rintro _ rfl _ - Q hQ
        go_wp2
        exact hQ undef _ _ rfl trivial (Below.refl _ _) trivial
      case s13 =>
        intro w' m' hE hR
        rintro _ rfl Q hQ
        go_wp2
        exact hQ undef _ _ rfl trivial (Below.refl _ _) trivial
      case s14 =>
        intro w' m' hE hR
        rintro _ rfl _ - _ - Q hQ
        go_wp2
        exact hQ undef _ _ rfl trivial (Below.refl _ _) trivial
      case s15 =>
        intro w' m' hE hR
        rintro _ rfl _ - Q hQ
        go_wp2
        exact hQ undef _ _ rfl trivial (Below.refl _ _) trivial
      case s16 =>
        intro w' m' hE hR
        rintro _ rfl Q hQ
        go_wp2
        exact hQ undef _ _ rfl trivial (Below.refl _ _) trivial
      case s17 =>
        intro w' m' hE hR
        rintro _ rfl _ - _ - Q hQ
        go_wp2
        exact hQ undef _ _ rfl trivial (Below.refl _ _) trivial
      case s18 =>
        intro w' m' hE hR
        rintro _ rfl _ rfl _ - Q hQ
        go_wp2
        exact hQ _ _ _ rfl rfl (Below.refl _ _) trivial
      case s19 =>
        intro w' m' hE hR
        rintro _ rfl _ rfl Q hQ
        go_wp2
        exact hQ _ _ _ rfl rfl (Below.refl _ _) trivial
      case s20 =>
        intro w' m' hE hR
        rintro _ rfl Q hQ
        go_wp2
        exact hQ _ _ _ rfl rfl (Below.refl _ _) trivial
      case s21 =>
        intro w' m' hE hR
        rintro _ rfl Q hQ
        go_wp2
        exact hQ _ _ _ rfl rfl (Below.refl _ _) trivial
      case s22 =>
        intro w' m' hE hR
        rintro _ rfl _ rfl Q hQ
        obtain ⟨⟨s0, s1, s2, s3, s4, s5⟩, ⟨s6, s7, s8⟩, ⟨s9, s10, s11⟩, s12, s13, s14, s15⟩ := unhide HX8 w' (below_undrew hE)
        go_wp2
        exact hQ _ _ _ rfl rfl (Below.refl _ _) trivial
      case s23 =>
        intro w' m' hE hR
        rintro _ rfl Q hQ
        obtain ⟨⟨s0, s1, s2, s3, s4, s5⟩, ⟨s6, s7, s8⟩, ⟨s9, s10, s11⟩, s12, s13, s14, s15⟩ := unhide HX8 w' (below_undrew hE)
        go_wp2
        exact hQ _ _ _ rfl rfl (Below.refl _ _) trivial
      case s24 =>
        intro w' m' hE hR
        rintro _ rfl Q hQ
        go_wp2
        exact hQ _ _ _ rfl rfl (Below.refl _ _) trivial
      case s25 =>
        intro w' m' hE hR
        rintro _ rfl _ rfl _ rfl Q hQ
        obtain ⟨⟨s0, s1, s2, s3, s4, s5⟩, ⟨s6, s7, s8⟩, ⟨s9, s10, s11⟩, s12, s13, s14, s15⟩ := unhide HX8 w' (below_undrew hE)
        go_wp2_with fail
        refine (unhide HSTQ w' s15).mono ?_
        rintro e w9 ⟨A5, c5, rfl, o5, b9⟩
        go_wp2
        exact hQ _ _ _ rfl ⟨A5, c5, rfl, own_rd o5⟩ b9 trivial
      case s26 =>
        intro w' m' hE hR
        rintro _ rfl Q hQ
        go_wp2
        exact hQ _ _ _ rfl rfl (Below.refl _ _) trivial
      case s27 =>
        intro w' m' hE hR
        rintro _ rfl _ ⟨A5, c5, rfl, r5⟩ _ rfl Q hQ
        go_wp2_with fail
        refine (valueAt_impl A5 c5 st key w' r5 (by omega)).mono ?_
        rintro e w9 ⟨rfl, b9⟩
        go_wp2
        exact hQ _ _ _ rfl rfl b9 trivial
    intro w9 hE _
    rintro v0 - v1 - v2 - v3 - v4 - v5 - v6 - v7 - v8 - v9 - v10 - v11 - v12 - v13 - v14 - v15 - v16 - v17 - v18 - v19 hv19 v20 hv20 v21 - v22 hv22 v23 - v24 - v25 - v26 - v27 hv27
    obtain rfl : v19 = _ := hv19
    obtain rfl : v20 = _ := hv20
    obtain rfl : v22 = _ := hv22
    obtain rfl : v27 = _ := hv27
    change wpList _ _ _ [_, _, _] _ _
    simp only [Act.put, List.setIfInBounds_toArray, List.set_cons_succ, List.set_cons_zero]
    have b9 := below_undrew hE
    clear hE hF
    have hve : (an.value == valAt st key) = true := by rw [unhide HVAL]; simp
    go_wp2
    go_ret
    exact ⟨rfl, bthen (unhide HB28) b9⟩
  · have hF : StBL [bV (.int .i64 (q : Int)), bV (.slice (some ⟨gr, 0, none⟩) t.blocks.length cr), bV (.int .i64 (t.blocks.length : Int)), bV (.bool true), bV (.bool true), bV (.slice (some ⟨gr, 0, none⟩) t.blocks.length cr), bV (.int .i64 (q : Int)), bV (.pointer (some ⟨gr, q, none⟩)), bV (.bool true), bV (.bool false), bV (.bool false), bV (.pointer (some ⟨bx, 1, none⟩)), bV (.slice (some ⟨bq, offq, none⟩) t.blocks.length c2), bV (.int .i64 (q : Int)), bV (.pointer (some ⟨bq, offq + q * 6, none⟩)), bV (.agg #[.int .i64 x.before, .int .i64 x.height, .int .i64 x.view, .slice L1 x.list.length e1, .int .i64 x.root, .int .i64 x.eff]), bV (.agg #[.int .i64 an.key, .int .i64 an.value, .slice A7 an.proof.length c7]), bV (.bool true), bV (.bool true), bV (.bool true), bV (.bool true), bV (.pointer (some ⟨ga, 1, none⟩)), bV (.int .i64 an.value), bV (.agg #[.slice A1 t.base.length c1, .slice A2 t.blocks.length c2, .slice A3 t.before.length c3]), bV (.int .i64 (q : Int)), bEnts st, bV (.int .i64 key), bV (.int .i64 (valAt st key))] :=
      ⟨sb_V _, sb_V _, sb_V _, sb_V _, sb_V _, sb_V _, sb_V _, sb_V _, sb_V _, sb_V _, sb_V _, sb_V _, sb_V _, sb_V _, sb_V _, sb_V _, sb_V _, sb_V _, sb_V _, sb_V _, sb_V _, sb_V _, sb_V _, sb_V _, sb_V _, sb_Ents _, sb_V _, sb_V _, trivial⟩
    go_upto_region 11 with fail
    refine wp_region_loc (by kernel_rfl) [(0, some 80), (1, some 81), (2, some 82), (3, some 83), (4, some 84), (5, some 85), (6, some 86), (7, some 87), (8, some 88), (9, some 89), (10, some 90), (11, some 91), (12, some 92), (13, some 93), (14, some 94), (15, some 95), (16, some 96), (17, some 97), (18, some 98), (19, some 99), (20, some 100), (21, some 101), (22, some 102), (23, some 103), (24, some 104), (25, some 105), (26, some 106), (27, some 107)] [[], [], [(1, some 81)], [(0, some 80), (2, some 82)], [(3, some 83)], [(4, some 84)], [(4, some 84)], [(4, some 84), (5, some 85), (6, some 86)], [(4, some 84), (7, some 87)], [(4, some 84), (8, some 88)], [(4, some 84), (9, some 89)], [(10, some 90)], [(10, some 90), (11, some 91)], [(10, some 90)], [(10, some 90), (12, some 92), (13, some 93)], [(10, some 90), (14, some 94)], [(10, some 90)], [(10, some 90), (15, some 95), (16, some 96)], [(4, some 84), (10, some 90), (17, some 97)], [(4, some 84), (18, some 98)], [(19, some 99)], [(20, some 100)], [(20, some 100), (21, some 101)], [(20, some 100)], [(20, some 100)], [(20, some 100), (23, some 103), (24, some 104)], [(20, some 100)], [(20, some 100), (25, some 105), (26, some 106)]] (by kernel_rfl)
      (locB _) (fun a b => Below a.heap.size a b) noR [0, 0, 0, 0, 0, 0, 0, 0, 0, 0, 0, 0, 0, 0, 0, 0, 0, 0, 0, 0, 0, 0, 0, 0, 0, 0, 0, 0] 0 (by kernel_rfl) (fun _ => Below.refl _ _) (fun _ _ _ => bthen) (locB_st hF _) trivial ?_ ?_
    · refine steps_cons ?s0 ( steps_cons ?s1 ( steps_cons ?s2 ( steps_cons ?s3 ( steps_cons ?s4 ( steps_cons ?s5 ( steps_cons ?s6 ( steps_cons ?s7 ( steps_cons ?s8 ( steps_cons ?s9 ( steps_cons ?s10 ( steps_cons ?s11 ( steps_cons ?s12 ( steps_cons ?s13 ( steps_cons ?s14 ( steps_cons ?s15 ( steps_cons ?s16 ( steps_cons ?s17 ( steps_cons ?s18 ( steps_cons ?s19 ( steps_cons ?s20 ( steps_cons ?s21 ( steps_cons ?s22 ( steps_cons ?s23 ( steps_cons ?s24 ( steps_cons ?s25 ( steps_cons ?s26 ( steps_cons ?s27 steps_nil)))))))))))))))))))))))))))
      case s0 =>
        intro w' m' hE hR
        intro Q hQ
        go_wp2
        exact hQ _ _ _ rfl rfl (Below.refl _ _) trivial
      case s1 =>
        intro w' m' hE hR
        intro Q hQ
        go_wp2
        exact hQ _ _ _ rfl rfl (Below.refl _ _) trivial
      case s2 =>
        intro w' m' hE hR
        rintro _ rfl Q hQ
        go_wp2
        exact hQ _ _ _ rfl rfl (Below.refl _ _) trivial
      case s3 =>
        intro w' m' hE hR
        rintro _ rfl _ rfl Q hQ
        go_wp2
        exact hQ _ _ _ rfl rfl (Below.refl _ _) trivial
      case s4 =>
        intro w' m' hE hR
        rintro _ rfl Q hQ
        go_wp2
        exact hQ _ _ _ rfl rfl (Below.refl _ _) trivial
      case s5 =>
        intro w' m' hE hR
        rintro _ rfl Q hQ
        go_wp2
        exact hQ _ _ _ rfl rfl (Below.refl _ _) trivial
      case s6 =>
        intro w' m' hE hR
        rintro _ rfl Q hQ
        go_wp2
        exact hQ _ _ _ rfl rfl (Below.refl _ _) trivial
      case s7 =>
        intro w' m' hE hR
        rintro _ rfl _ rfl _ rfl Q hQ
        go_wp2
        exact hQ _ _ _ rfl rfl (Below.refl _ _) trivial
      case s8 =>
        intro w' m' hE hR
        rintro _ rfl _ rfl Q hQ
        obtain ⟨⟨s0, s1, s2, s3, s4, s5⟩, ⟨s6, s7, s8⟩, ⟨s9, s10, s11⟩, s12, s13, s14, s15⟩ := unhide HX8 w' (below_undrew hE)
        go_wp2
        exact hQ _ _ _ rfl rfl (Below.refl _ _) trivial
      case s9 =>
        intro w' m' hE hR
        rintro _ rfl _ rfl Q hQ
        go_wp2
        exact hQ _ _ _ rfl rfl (Below.refl _ _) trivial
      case s10 =>
        intro w' m' hE hR
        rintro _ rfl _ rfl Q hQ
        go_wp2
        exact hQ _ _ _ rfl rfl (Below.refl _ _) trivial
      case s11 =>
        intro w' m' hE hR
        rintro _ rfl Q hQ
        go_wp2
        exact hQ _ _ _ rfl rfl (Below.refl _ _) trivial
      case s12 =>
        intro w' m' hE hR
        rintro _ rfl _ rfl Q hQ
        obtain ⟨⟨s0, s1, s2, s3, s4, s5⟩, ⟨s6, s7, s8⟩, ⟨s9, s10, s11⟩, s12, s13, s14, s15⟩ := unhide HX8 w' (below_undrew hE)
        rw [unhide HA2] at s7
        go_wp2
        exact hQ _ _ _ rfl rfl (Below.refl _ _) trivial
      case s13 =>
        intro w' m' hE hR
        rintro _ rfl Q hQ
        go_wp2
        exact hQ _ _ _ rfl rfl (Below.refl _ _) trivial
      case s14 =>
        intro w' m' hE hR
        rintro _ rfl _ rfl _ rfl Q hQ
        go_wp2
        exact hQ _ _ _ rfl rfl (Below.refl _ _) trivial
      case s15 =>
        intro w' m' hE hR
        rintro _ rfl _ rfl Q hQ
        obtain ⟨⟨s0, s1, s2, s3, s4, s5⟩, ⟨s6, s7, s8⟩, ⟨s9, s10, s11⟩, s12, s13, s14, s15⟩ := unhide HX8 w' (below_undrew hE)
        go_wp2
        exact hQ _ _ _ rfl rfl (Below.refl _ _) trivial
      case s16 =>
        intro w' m' hE hR
        rintro _ rfl Q hQ
        obtain ⟨⟨s0, s1, s2, s3, s4, s5⟩, ⟨s6, s7, s8⟩, ⟨s9, s10, s11⟩, s12, s13, s14, s15⟩ := unhide HX8 w' (below_undrew hE)
        go_wp2
        exact hQ _ _ _ rfl rfl (Below.refl _ _) trivial
      case s17 =>
        intro w' m' hE hR
        rintro _ rfl _ rfl _ rfl Q hQ
        obtain ⟨⟨s0, s1, s2, s3, s4, s5⟩, ⟨s6, s7, s8⟩, ⟨s9, s10, s11⟩, s12, s13, s14, s15⟩ := unhide HX8 w' (below_undrew hE)
        go_wp2_with fail
        refine (answerRight_impl x an L1 e1 A7 c7 w' s13 (by omega) s14 (by omega)).mono ?_
        rintro e w9 ⟨rfl, b9⟩
        rw [unhide HRT (by simp)]
        go_wp2
        exact hQ _ _ _ rfl rfl b9 trivial
      case s18 =>
        intro w' m' hE hR
        rintro _ rfl _ rfl _ rfl Q hQ
        go_wp2
        exact hQ _ _ _ rfl rfl (Below.refl _ _) trivial
      case s19 =>
        intro w' m' hE hR
        rintro _ rfl _ rfl Q hQ
        go_wp2
        exact hQ _ _ _ rfl rfl (Below.refl _ _) trivial
      case s20 =>
        intro w' m' hE hR
        rintro _ rfl Q hQ
        go_wp2
        exact hQ _ _ _ rfl rfl (Below.refl _ _) trivial
      case s21 =>
        intro w' m' hE hR
        rintro _ rfl Q hQ
        go_wp2
        exact hQ _ _ _ rfl rfl (Below.refl _ _) trivial
      case s22 =>
        intro w' m' hE hR
        rintro _ rfl _ rfl Q hQ
        obtain ⟨⟨s0, s1, s2, s3, s4, s5⟩, ⟨s6, s7, s8⟩, ⟨s9, s10, s11⟩, s12, s13, s14, s15⟩ := unhide HX8 w' (below_undrew hE)
        go_wp2
        exact hQ _ _ _ rfl rfl (Below.refl _ _) trivial
      case s23 =>
        intro w' m' hE hR
        rintro _ rfl Q hQ
        obtain ⟨⟨s0, s1, s2, s3, s4, s5⟩, ⟨s6, s7, s8⟩, ⟨s9, s10, s11⟩, s12, s13, s14, s15⟩ := unhide HX8 w' (below_undrew hE)
        go_wp2
        exact hQ _ _ _ rfl rfl (Below.refl _ _) trivial
      case s24 =>
        intro w' m' hE hR
        rintro _ rfl Q hQ
        go_wp2
        exact hQ _ _ _ rfl rfl (Below.refl _ _) trivial
      case s25 =>
        intro w' m' hE hR
        rintro _ rfl _ rfl _ rfl Q hQ
        obtain ⟨⟨s0, s1, s2, s3, s4, s5⟩, ⟨s6, s7, s8⟩, ⟨s9, s10, s11⟩, s12, s13, s14, s15⟩ := unhide HX8 w' (below_undrew hE)
        go_wp2_with fail
        refine (unhide HSTQ w' s15).mono ?_
        rintro e w9 ⟨A5, c5, rfl, o5, b9⟩
        go_wp2
        exact hQ _ _ _ rfl ⟨A5, c5, rfl, own_rd o5⟩ b9 trivial
      case s26 =>
        intro w' m' hE hR
        rintro _ rfl Q hQ
        go_wp2
        exact hQ _ _ _ rfl rfl (Below.refl _ _) trivial
      case s27 =>
        intro w' m' hE hR
        rintro _ rfl _ ⟨A5, c5, rfl, r5⟩ _ rfl Q hQ
        go_wp2_with fail
        refine (valueAt_impl A5 c5 st key w' r5 (by omega)).mono ?_
        rintro e w9 ⟨rfl, b9⟩
        go_wp2
        exact hQ _ _ _ rfl rfl b9 trivial
    intro w9 hE _
    rintro v0 - v1 - v2 - v3 - v4 - v5 - v6 - v7 - v8 - v9 - v10 - v11 - v12 - v13 - v14 - v15 - v16 - v17 - v18 - v19 hv19 v20 hv20 v21 - v22 hv22 v23 - v24 - v25 - v26 - v27 hv27
    obtain rfl : v19 = _ := hv19
    obtain rfl : v20 = _ := hv20
    obtain rfl : v22 = _ := hv22
    obtain rfl : v27 = _ := hv27
    change wpList _ _ _ [_, _, _] _ _
    simp only [Act.put, List.setIfInBounds_toArray, List.set_cons_succ, List.set_cons_zero]
    have b9 := below_undrew hE
    clear hE hF
    have hve : (an.value == valAt st key) = true := by rw [unhide HVAL]; simp
    go_wp2
    go_ret
    exact ⟨rfl, bthen (unhide HB28) b9⟩
end Go.Proofs.YtefdhlfljpppfaaGreat
