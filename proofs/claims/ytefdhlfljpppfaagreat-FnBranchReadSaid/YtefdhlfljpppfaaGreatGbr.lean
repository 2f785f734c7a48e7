/- An append of zeros to nothing (slices.Grow): the operation's law. slices.Grow and slices.Concat at entries. The sums of effects, of the program (printed by gen_in.py from xeffsi.in). Slices of bools in memory; the laws' helpers over them. The right blocks of a tree, of the program (printed by gen_in.py from xright.in). A region that draws its order, lays a variable and stores into it: as in XLocX, with all values told to the resource. No program is in sight here. Keys as bits of a number. No program is in sight here. A layer for every block of a tree, of the program (printed by gen_in.py from xlayers.in). What is read in the layers of a tree's blocks, of the program; the plain law: a layer shows the values after its block. The law FnBranchRead: the walk (printed by gen_in.py from xlawfbranch.in). -/
import Derived.Test.YtefdhlfljpppfaaGreatMem
import Derived.Test.YtefdhlfljpppfaaGreatPut
import Derived.Test.YtefdhlfljpppfaaGreatEffS
import Derived.Test.YtefdhlfljpppfaaGreatGgrow
import Derived.Test.YtefdhlfljpppfaaGreatSums
import Derived.Test.YtefdhlfljpppfaaGreatGtree
import Derived.Test.YtefdhlfljpppfaaGreatIntS
import Derived.Test.YtefdhlfljpppfaaGreatDiffs
import Derived.Test.YtefdhlfljpppfaaGreatEnt
import Derived.Test.YtefdhlfljpppfaaGreatDrawTa
namespace Go.Proofs.YtefdhlfljpppfaaGreat
open Go.RowKit
set_option linter.unusedVariables false
set_option linter.unusedSimpArgs false

theorem run_append_nilZ {P : Program} {w : World} (t ti ty e : TypeId) (i : TypeInfo) (z : Value) (k : IntKind) (ht : P.underlying t = some (.slice e)) (hti : P.underlying ti = some (.int k)) (hi : P.info? e = some i) (hz : i.zero = some z) (hz2 : 0 < i.size)
    (n : Nat) (h0 : 0 < n) (h63 : (n : Int) ≤ 1099511627776) (h48 : n * i.bytes ≤ 281474976710656) :
    (Builtin.append_ #[t, ti] ty #[.slice none 0 0, .int .i64 (n : Int)]).run P w =
      .ok (.slice (some ⟨w.heap.size, 0, none⟩) n (grownCap w n 0 e)) (w.drew.alloc (.cells (Builtin.zeroCells z.cells n ++ Builtin.zeroCells z.cells (grownCap w n 0 e - n)) e)) := by
  have hn : n ≠ 0 := by omega
  have hw : IntKind.i64.wrap (n : Int) = (n : Int) := by rw [IntKind.wrap_i64, Int.emod_eq_of_lt (by omega) (by omega)]; omega
  have hneg : ¬ ((n : Int) < 0) := by omega
  have h63' : ¬ (9223372036854775807 < (n : Int)) := by omega
  have h48'' : ¬ (281474976710656 < (n : Int) * (i.bytes : Int)) := by
    have h := Int.ofNat_le.2 h48
    rw [Int.natCast_mul] at h
    exact Int.not_lt.2 h
  have h48' : ¬ (281474976710656 < Builtin.nextslicecap n 0 * i.bytes) := by rw [nextslicecap_zero h0]; omega
  have hs : ¬ (i.size = 0) := by omega
  have hs2 : ¬ (n * i.size = 0) := Nat.mul_ne_zero hn hs
  simp [Builtin.append_, run_underlying ht, run_underlying hti, sizeOf, typeInfo, zeroValue, hi, hz, asInt, asIntOf, hw, hneg, hn, h63', h48', h48'', hs, hs2, Question.forced, run_firstCells_none, newRow, grownCap]
theorem wpList_appZ {P : Program} {w : World} {ops : Array Oper} {rest : List Oper} {o : Oper} {a : Go.Act} {Q : Exit → Go.Act → World → Prop} (hgd : o.guard = none) (s x : Operand) (t ti : TypeId)
    (ho : o.op = .call { callee := .builtin .append, args := #[s, x], argTypes := #[t, ti] }) (k : IntKind) (hti : P.underlying ti = some (.int k))
    {e : TypeId} {size bytes base n : Nat} (hel : El P t e size bytes) (hs : a.eval s = .slice none 0 0) (hx : a.eval x = .int .i64 (n : Int))
    (h0 : 0 < n) (h63 : (n : Int) ≤ 1099511627776) (hbytes : n * bytes ≤ 140737488355328) (hbase : base ≤ w.heap.size)
    (h : ∀ g c' w', g = w.heap.size → n ≤ c' → w'.ownsRow base e size (.slice (some ⟨g, 0, none⟩) 0 c') 0 [] → Below w.heap.size w w' → wpList P ops Q rest (a.put o.dst (.slice (some ⟨g, 0, none⟩) n c')) w') : wpList P ops Q (o :: rest) a w :=
  wpList_plain hgd fun _ hK => by
    obtain ⟨ht, i, z, hi, hz, hsz, hby, hzs, hpos⟩ := hel
    have hrun := run_append_nilZ (P := P) (w := w) t ti o.type e i z k ht hti hi hz (by omega) n h0 h63 (by rw [hby]; omega)
    have hge := grownCap_ge w n 0 e
    have hcm := grownCap_le_maxLen w n 0 e (by simp only [maxLen]; omega)
    unfold Oper.wp execOp
    simp only [ho, resolve, invoke, builtin, Sem.run_bind, Sem.run_pure, Result.andThen_ok, List.map_toArray, List.map_cons, List.map_nil, hs, hx, hrun]
    refine hK _ _ (h _ _ _ rfl hge ?_ ((Below.refl _ _).drew.alloc (Nat.le_refl _) _))
    refine ⟨by simp, .inr ⟨w.heap.size, _, _, rfl, hbase, heap_alloc_new w.drew _, Nat.zero_le _, hcm, ?_, by simp⟩⟩
    rw [Array.size_append, size_zeroCells, size_zeroCells, hzs, ← Nat.add_mul]
    congr 1
    omega
end Go.Proofs.YtefdhlfljpppfaaGreat
namespace Go.Proofs.YtefdhlfljpppfaaGreat
open Go.RowKit
set_option linter.unusedVariables false
set_option linter.unusedSimpArgs false

set_option maxRecDepth 100000 in
set_option maxHeartbeats 1000000 in
theorem growE_nil (n : Nat) (w : World) (hn : n ≤ 1000000) :
    Calls Tryz.prog 139 #[.slice none 0 0, .int .i64 (n : Int)] w fun e w' => ∃ A c, e = .returned (.slice A 0 c) ∧ w'.ownsRow w.heap.size 85 2 (.slice A 0 c) 0 [] ∧ Below w.heap.size w w' := by
  by_cases h0 : n = 0
  · subst h0
    go_enter Tryz.func139, Tryz.ntmps139
    go_wp2
    go_ret
    exact ⟨none, 0, rfl, own_nil _ _ _ _, Below.refl _ _⟩
  · have h1 : (0 : Int) < (n : Int) := by omega
    have h2 : ¬ ((n : Int) < 0) := by omega
    go_enter Tryz.func139, Tryz.ntmps139
    go_wp2_with (at_builtin; refine wpList_appZ (base := w.heap.size) rfl (.tmp 20) (.tmp 21) 23 3 rfl .i64 (by kernel_rfl) el_ent rfl rfl (by omega) (by omega) (by omega) (Nat.le_refl _) ?_; intro g c8 w8 hg hc8 o8 b8)
    go_ret
    exact ⟨_, _, rfl, hg ▸ o8, b8⟩
set_option maxRecDepth 100000 in
set_option maxHeartbeats 2000000 in
theorem concatE_any (B : Option Addr) (c0 : Nat) (A1 A2 : Option Addr) (c1 c2 : Nat) (xs ys : List Ent) (w : World) (hB : Rd w B [.slice A1 xs.length c1, .slice A2 ys.length c2]) (h1 : Rd w A1 (xs.flatMap encE)) (h2 : Rd w A2 (ys.flatMap encE)) (hb1 : xs.length ≤ 400000) (hb2 : ys.length ≤ 400000) :
    Calls Tryz.prog 135 #[.slice B 2 c0] w fun e w' => ∃ A' c', e = .returned (.slice A' (xs ++ ys).length c') ∧ w'.ownsRow w.heap.size 85 2 (.slice A' (xs ++ ys).length c') (xs ++ ys).length ((xs ++ ys).flatMap encE) ∧ Below w.heap.size w w' := by
  obtain ⟨b, off, rfl, hbb, hc⟩ := hB (by simp)
  have x0 : w.cell? ⟨b, off, none⟩ = some (.slice A1 xs.length c1) := hc 0 _ rfl
  have x1 : w.cell? ⟨b, off + 1, none⟩ = some (.slice A2 ys.length c2) := hc 1 _ rfl
  have HB := hide (fun (w' : World) (hb : Below w.heap.size w w') => show w'.cell? ⟨b, off, none⟩ = some (.slice A1 xs.length c1) ∧ w'.cell? ⟨b, off + 1, none⟩ = some (.slice A2 ys.length c2) from ⟨(hb.cell (p := ⟨b, off, none⟩) hbb).trans x0, (hb.cell (p := ⟨b, off + 1, none⟩) hbb).trans x1⟩)
  clear hc hB
  have n1 : ¬ ((xs.length : Int) < 0) := by omega
  have n2 : ¬ ((xs.length : Int) + (ys.length : Int) < 0) := by omega
  go_enter Tryz.func135, Tryz.ntmps135
  go_wp2
  go_loop [3, 5, 11] (fun s _ i => (i = .int .i64 0 ∧ s = .int .i64 0) ∨ (i = .int .i64 1 ∧ s = .int .i64 xs.length) ∨ (i = .int .i64 2 ∧ s = .int .i64 (xs.length + ys.length))) (fun _ _ i => 2 - (intOf i).toNat)
  case atStart => exact .inl ⟨rfl, rfl⟩
  case round =>
    rcases hrel with ⟨rfl, rfl⟩ | ⟨rfl, rfl⟩ | ⟨rfl, rfl⟩
    · go_wp2
      go_round
      case rel => exact .inr (.inl ⟨by go_num, by go_num⟩)
      case measure => simp [intOf]
    · go_wp2
      go_round
      case rel => exact .inr (.inr ⟨by go_num, by go_num⟩)
      case measure => simp [intOf]
    · have KG := growE_nil (xs.length + ys.length) w (by omega)
      rw [Int.natCast_add] at KG
      go_wp2_with fail
      refine KG.mono ?_
      rintro e w1 ⟨A0, c3, rfl, o1, b1⟩
      clear KG x0 x1
      go_wp2
      go_loopw [6, 8, 27] (fun s _ i wr => ∃ A' c', Below w.heap.size w wr ∧ ((i = .int .i64 0 ∧ s = .slice A' 0 c' ∧ wr.ownsRow w.heap.size 85 2 (.slice A' 0 c') 0 []) ∨ (i = .int .i64 1 ∧ s = .slice A' xs.length c' ∧ wr.ownsRow w.heap.size 85 2 (.slice A' xs.length c') xs.length (xs.flatMap encE)) ∨ (i = .int .i64 2 ∧ s = .slice A' (xs.length + ys.length) c' ∧ wr.ownsRow w.heap.size 85 2 (.slice A' (xs.length + ys.length) c') (xs.length + ys.length) (xs.flatMap encE ++ ys.flatMap encE)))) (fun _ _ i _ => 2 - (intOf i).toNat)
      case atStart => exact ⟨A0, c3, b1, .inl ⟨rfl, rfl, o1⟩⟩
      case round =>
        clear o1 b1
        obtain ⟨A', c', hb, ⟨rfl, rfl, ho⟩ | ⟨rfl, rfl, ho⟩ | ⟨rfl, rfl, ho⟩⟩ := hrel
        · obtain ⟨x0, x1⟩ := unhide HB wr hb
          have hs := hb.size
          have hrg := own_rng ho
          go_wp2_with (at_builtin; refine wpList_app rfl (.tmp 31) (.tmp 32) 23 rfl el_ent rfl ho rfl (h1.new hb) (length_flat encE 2 encE_len xs) (one_ents xs) (by simp only [maxLen]; omega) (by omega) (by omega) ?_; intro A8 c8 w8 o8 ch8 d8 _)
          have hB8 : Below w.heap.size w w8 := hb.trans (ch8.below (fun q hq e => by have := hrg q e; omega) (by omega))
          go_roundw
          case rel => exact ⟨A8, c8, hB8, .inr (.inl ⟨by go_num, by simp, by simpa using o8⟩)⟩
          case measure => simp [intOf]
        · obtain ⟨x0, x1⟩ := unhide HB wr hb
          have hs := hb.size
          have hrg := own_rng ho
          go_wp2_with (at_builtin; refine wpList_app rfl (.tmp 31) (.tmp 32) 23 rfl el_ent rfl ho rfl (h2.new hb) (length_flat encE 2 encE_len ys) (one_ents ys) (by simp only [maxLen]; omega) (by omega) (by omega) ?_; intro A8 c8 w8 o8 ch8 d8 _)
          have hB8 : Below w.heap.size w w8 := hb.trans (ch8.below (fun q hq e => by have := hrg q e; omega) (by omega))
          go_roundw
          case rel => exact ⟨A8, c8, hB8, .inr (.inr ⟨by go_num, rfl, o8⟩)⟩
          case measure => simp [intOf]
        · go_wp2
          go_ret
          rw [List.length_append, List.flatMap_append]
          exact ⟨A', c', rfl, ho, hb⟩
end Go.Proofs.YtefdhlfljpppfaaGreat
namespace Go.Proofs.YtefdhlfljpppfaaGreat
open Go.RowKit
set_option linter.unusedVariables false
set_option linter.unusedSimpArgs false

set_option maxRecDepth 100000 in
set_option maxHeartbeats 4000000 in
theorem effectSum_impl (x : Eff) (A1 : Option Addr) (c1 : Nat) (A2 : Option Addr) (c2 : Nat) (w : World) (h1 : Rd w A1 (x.reads.flatMap encE)) (h2 : Rd w A2 (x.writes.flatMap encE)) (hb1 : x.reads.length ≤ 400000) (hb2 : x.writes.length ≤ 400000) :
    Calls Tryz.prog 120 #[.agg #[.bool x.done, .slice A1 x.reads.length c1, .slice A2 x.writes.length c2]] w fun e w' => e = .returned (.int .i64 (effSum x)) ∧ Below w.heap.size w w' := by
  obtain ⟨dn, rs, ws⟩ := x
  simp only at h1 h2 hb1 hb2 ⊢
  cases dn
  · have HS := hide (show effSum ⟨false, rs, ws⟩ = sumF 3 ([0, (rs.length : Int)] ++ (rs ++ ws).flatMap entN) from by simp [effSum, effL])
    have k0 : Blk (w.alloc (.cells #[.bool false, .slice A1 rs.length c1, .slice A2 ws.length c2] 83)) w.heap.size 83 #[.bool false, .slice A1 rs.length c1, .slice A2 ws.length c2] := Blk.new _ _ _
    have om : ((w.alloc (.cells #[.bool false, .slice A1 rs.length c1, .slice A2 ws.length c2] 83)).alloc (.cells #[.int .i64 0, .int .i64 (rs.length : Int)] 3)).ownsRow (w.heap.size + 1) 3 1 (.slice (some ⟨w.heap.size + 1, 0, none⟩) 2 2) 2 [.int .i64 0, .int .i64 (rs.length : Int)] := by
      have := own_made (base := w.heap.size + 1) (e := 3) (size := 1) (w.alloc (.cells #[.bool false, .slice A1 rs.length c1, .slice A2 ws.length c2] 83)) #[.int .i64 0, .int .i64 (rs.length : Int)] 2 (by simp) (by simp [maxLen]) rfl
      simpa using this
    have bm : Below w.heap.size w ((w.alloc (.cells #[.bool false, .slice A1 rs.length c1, .slice A2 ws.length c2] 83)).alloc (.cells #[.int .i64 0, .int .i64 (rs.length : Int)] 3)) := ((Below.refl _ _).alloc (Nat.le_refl _) _).alloc (by simp) _
    have x1 : (w.alloc (.cells #[.bool false, .slice A1 rs.length c1, .slice A2 ws.length c2] 83)).cell? ⟨w.heap.size, 1, none⟩ = some (.slice A1 rs.length c1) := k0.cell 1
    have kw : Blk ((w.alloc (.cells #[.bool false, .slice A1 rs.length c1, .slice A2 ws.length c2] 83)).alloc (.cells #[.int .i64 0, .int .i64 (rs.length : Int)] 3)) w.heap.size 83 #[.bool false, .slice A1 rs.length c1, .slice A2 ws.length c2] := k0.alloc _
    have y1 : ((w.alloc (.cells #[.bool false, .slice A1 rs.length c1, .slice A2 ws.length c2] 83)).alloc (.cells #[.int .i64 0, .int .i64 (rs.length : Int)] 3)).cell? ⟨w.heap.size, 1, none⟩ = some (.slice A1 rs.length c1) := kw.cell 1
    have y2 : ((w.alloc (.cells #[.bool false, .slice A1 rs.length c1, .slice A2 ws.length c2] 83)).alloc (.cells #[.int .i64 0, .int .i64 (rs.length : Int)] 3)).cell? ⟨w.heap.size, 2, none⟩ = some (.slice A2 ws.length c2) := kw.cell 2
    obtain ⟨W, hW⟩ : ∃ W : World, W = ((w.alloc (.cells #[.bool false, .slice A1 rs.length c1, .slice A2 ws.length c2] 83)).alloc (.cells #[.int .i64 0, .int .i64 (rs.length : Int)] 3)).alloc (.cells #[.slice A1 rs.length c1, .slice A2 ws.length c2] 23) := ⟨_, rfl⟩
    have bl : Below w.heap.size w W := by rw [hW]; exact bm.alloc (by simp; omega) _
    have ol : W.ownsRow (w.heap.size + 1) 3 1 (.slice (some ⟨w.heap.size + 1, 0, none⟩) 2 2) 2 [.int .i64 0, .int .i64 (rs.length : Int)] := by rw [hW]; exact own_alloc om _
    have rl : Rd W (some ⟨w.heap.size + 2, 0, none⟩) [.slice A1 rs.length c1, .slice A2 ws.length c2] := by rw [hW]; exact rd_at _ [.slice A1 rs.length c1, .slice A2 ws.length c2] _ (by simp)
    have KC := concatE_any (some ⟨w.heap.size + 2, 0, none⟩) 2 A1 A2 c1 c2 rs ws W rl (h1.new bl) (h2.new bl) hb1 hb2
    clear h1 h2 kw k0 om bm rl
    go_enter Tryz.func120, Tryz.ntmps120
    go_wp2_with fail
    rw [← hW]
    refine KC.mono ?_
    rintro e w3 ⟨A, c, rfl, oc, b3⟩
    have o3 := own_new ol b3
    have oz := own_base0 oc
    have B3 := bthen bl b3
    clear KC hW oc b3 ol bl x1 y1 y2
    have hzl : (rs ++ ws).length ≤ 800000 := by rw [List.length_append]; omega
    generalize rs ++ ws = zs at *
    go_wp2
    go_loopw [3, 5, 21] (fun ns _ i wr => ∃ (k : Nat) (A' : Option Addr) (c' : Nat), k ≤ zs.length ∧ i = .int .i64 k ∧ ns = .slice A' (2 + 2 * k) c' ∧ wr.ownsRow (w.heap.size + 1) 3 1 (.slice A' (2 + 2 * k) c') (2 + 2 * k) (([0, (rs.length : Int)] ++ (zs.take k).flatMap entN).map (.int .i64)) ∧ wr.ownsRow 0 85 2 (.slice A zs.length c) zs.length (zs.flatMap encE) ∧ Below w.heap.size w wr ∧ w.heap.size + 1 ≤ wr.heap.size) (fun _ _ i _ => zs.length - (intOf i).toNat)
    case atStart => exact ⟨0, _, _, Nat.zero_le _, rfl, rfl, by simpa using o3, oz, B3, by have := own_rng o3 _ rfl; omega⟩
    case round =>
      clear o3 oz B3
      obtain ⟨k, A', c', hk, rfl, rfl, hown, oz, hB, hsz1⟩ := hrel
      have hsz := hB.size
      by_cases hlt : k < zs.length
      · obtain ⟨bq, offq, hAe, hbb, q0, q1⟩ := (own_rd oz).ent hlt
        have HT := hide (entN_take [0, (rs.length : Int)] zs k hlt)
        have hne := own_ne hown oz (by decide)
        generalize zs[k] = en at *
        have i1 : (k : Int) < (zs.length : Int) := by omega
        have HAE := hide hAe
        have HOZ := hide (fun (w' : World) (b : Below wr.heap.size wr w') => own_new oz b)
        have hrg := own_rng hown
        clear oz hAe
        rw [unhide HAE]
        go_wp2_with (at_builtin; refine wpList_app rfl (.tmp 25) (.tmp 30) 25 rfl el_int rfl (own_alloc (own_alloc hown _) _) rfl (rd_at (s := wr.heap.size + 1) _ [.int .i64 en.k, .int .i64 en.v] _ (by simp)) rfl (one_ints [en.k, en.v]) (by simp only [maxLen]; omega) (by omega) (by simp; omega) ?_; intro A8 c8 w8 o8 ch8 d8 _)
        have hB8 : Below w.heap.size w w8 := ((hB.alloc hsz _).alloc (by simp; omega) _).trans (ch8.below (fun q hq e => by have := hrg q e; omega) (by simp; omega))
        have oz8 := own_chg (own_alloc (own_alloc (unhide HOZ wr (Below.refl _ _)) (.cells #[.int .i64 en.k, .int .i64 en.v] 85)) (.cells #[.int .i64 en.k, .int .i64 en.v] 3)) ch8 (fun q h1 h2 => hne q h2 h1)
        have hs8 := ch8.size
        go_roundw
        case rel => exact ⟨k + 1, A8, c8, by omega, by go_num, by simp; omega, by rw [← unhide HT]; simpa [Nat.mul_add, Nat.add_assoc] using o8, by rw [← unhide HAE]; exact oz8, hB8, by simp at hs8; omega⟩
        case measure => simp [intOf]; omega
      · obtain rfl : k = zs.length := by omega
        rw [List.take_length] at hown
        have hlen : ([0, (rs.length : Int)] ++ zs.flatMap entN).length = 2 + 2 * zs.length := by rw [List.length_append, entN_len]; rfl
        have KS := sum_impl 3 A' c' ([0, (rs.length : Int)] ++ zs.flatMap entN) wr (own_rd hown) (by omega)
        rw [hlen, ← unhide HS] at KS
        clear hlen
        go_wp2_with fail
        refine KS.mono ?_
        rintro e w' ⟨rfl, rfl⟩
        go_wp2
        go_ret
        exact ⟨rfl, hB⟩
  · have HS := hide (show effSum ⟨true, rs, ws⟩ = sumF 3 ([1, (rs.length : Int)] ++ (rs ++ ws).flatMap entN) from by simp [effSum, effL])
    have k0 : Blk (w.alloc (.cells #[.bool true, .slice A1 rs.length c1, .slice A2 ws.length c2] 83)) w.heap.size 83 #[.bool true, .slice A1 rs.length c1, .slice A2 ws.length c2] := Blk.new _ _ _
    have om : ((w.alloc (.cells #[.bool true, .slice A1 rs.length c1, .slice A2 ws.length c2] 83)).alloc (.cells #[.int .i64 1, .int .i64 (rs.length : Int)] 3)).ownsRow (w.heap.size + 1) 3 1 (.slice (some ⟨w.heap.size + 1, 0, none⟩) 2 2) 2 [.int .i64 1, .int .i64 (rs.length : Int)] := by
      have := own_made (base := w.heap.size + 1) (e := 3) (size := 1) (w.alloc (.cells #[.bool true, .slice A1 rs.length c1, .slice A2 ws.length c2] 83)) #[.int .i64 1, .int .i64 (rs.length : Int)] 2 (by simp) (by simp [maxLen]) rfl
      simpa using this
    have bm : Below w.heap.size w ((w.alloc (.cells #[.bool true, .slice A1 rs.length c1, .slice A2 ws.length c2] 83)).alloc (.cells #[.int .i64 1, .int .i64 (rs.length : Int)] 3)) := ((Below.refl _ _).alloc (Nat.le_refl _) _).alloc (by simp) _
    have x1 : (w.alloc (.cells #[.bool true, .slice A1 rs.length c1, .slice A2 ws.length c2] 83)).cell? ⟨w.heap.size, 1, none⟩ = some (.slice A1 rs.length c1) := k0.cell 1
    have kw : Blk ((w.alloc (.cells #[.bool true, .slice A1 rs.length c1, .slice A2 ws.length c2] 83)).alloc (.cells #[.int .i64 1, .int .i64 (rs.length : Int)] 3)) w.heap.size 83 #[.bool true, .slice A1 rs.length c1, .slice A2 ws.length c2] := k0.alloc _
    have y1 : ((w.alloc (.cells #[.bool true, .slice A1 rs.length c1, .slice A2 ws.length c2] 83)).alloc (.cells #[.int .i64 1, .int .i64 (rs.length : Int)] 3)).cell? ⟨w.heap.size, 1, none⟩ = some (.slice A1 rs.length c1) := kw.cell 1
    have y2 : ((w.alloc (.cells #[.bool true, .slice A1 rs.length c1, .slice A2 ws.length c2] 83)).alloc (.cells #[.int .i64 1, .int .i64 (rs.length : Int)] 3)).cell? ⟨w.heap.size, 2, none⟩ = some (.slice A2 ws.length c2) := kw.cell 2
    obtain ⟨W, hW⟩ : ∃ W : World, W = ((w.alloc (.cells #[.bool true, .slice A1 rs.length c1, .slice A2 ws.length c2] 83)).alloc (.cells #[.int .i64 1, .int .i64 (rs.length : Int)] 3)).alloc (.cells #[.slice A1 rs.length c1, .slice A2 ws.length c2] 23) := ⟨_, rfl⟩
    have bl : Below w.heap.size w W := by rw [hW]; exact bm.alloc (by simp; omega) _
    have ol : W.ownsRow (w.heap.size + 1) 3 1 (.slice (some ⟨w.heap.size + 1, 0, none⟩) 2 2) 2 [.int .i64 1, .int .i64 (rs.length : Int)] := by rw [hW]; exact own_alloc om _
    have rl : Rd W (some ⟨w.heap.size + 2, 0, none⟩) [.slice A1 rs.length c1, .slice A2 ws.length c2] := by rw [hW]; exact rd_at _ [.slice A1 rs.length c1, .slice A2 ws.length c2] _ (by simp)
    have KC := concatE_any (some ⟨w.heap.size + 2, 0, none⟩) 2 A1 A2 c1 c2 rs ws W rl (h1.new bl) (h2.new bl) hb1 hb2
    clear h1 h2 kw k0 om bm rl
    go_enter Tryz.func120, Tryz.ntmps120
    go_wp2_with fail
    rw [← hW]
    refine KC.mono ?_
    rintro e w3 ⟨A, c, rfl, oc, b3⟩
    have o3 := own_new ol b3
    have oz := own_base0 oc
    have B3 := bthen bl b3
    clear KC hW oc b3 ol bl x1 y1 y2
    have hzl : (rs ++ ws).length ≤ 800000 := by rw [List.length_append]; omega
    generalize rs ++ ws = zs at *
    go_wp2
    go_loopw [3, 5, 21] (fun ns _ i wr => ∃ (k : Nat) (A' : Option Addr) (c' : Nat), k ≤ zs.length ∧ i = .int .i64 k ∧ ns = .slice A' (2 + 2 * k) c' ∧ wr.ownsRow (w.heap.size + 1) 3 1 (.slice A' (2 + 2 * k) c') (2 + 2 * k) (([1, (rs.length : Int)] ++ (zs.take k).flatMap entN).map (.int .i64)) ∧ wr.ownsRow 0 85 2 (.slice A zs.length c) zs.length (zs.flatMap encE) ∧ Below w.heap.size w wr ∧ w.heap.size + 1 ≤ wr.heap.size) (fun _ _ i _ => zs.length - (intOf i).toNat)
    case atStart => exact ⟨0, _, _, Nat.zero_le _, rfl, rfl, by simpa using o3, oz, B3, by have := own_rng o3 _ rfl; omega⟩
    case round =>
      clear o3 oz B3
      obtain ⟨k, A', c', hk, rfl, rfl, hown, oz, hB, hsz1⟩ := hrel
      have hsz := hB.size
      by_cases hlt : k < zs.length
      · obtain ⟨bq, offq, hAe, hbb, q0, q1⟩ := (own_rd oz).ent hlt
        have HT := hide (entN_take [1, (rs.length : Int)] zs k hlt)
        have hne := own_ne hown oz (by decide)
        generalize zs[k] = en at *
        have i1 : (k : Int) < (zs.length : Int) := by omega
        have HAE := hide hAe
        have HOZ := hide (fun (w' : World) (b : Below wr.heap.size wr w') => own_new oz b)
        have hrg := own_rng hown
        clear oz hAe
        rw [unhide HAE]
        go_wp2_with (at_builtin; refine wpList_app rfl (.tmp 25) (.tmp 30) 25 rfl el_int rfl (own_alloc (own_alloc hown _) _) rfl (rd_at (s := wr.heap.size + 1) _ [.int .i64 en.k, .int .i64 en.v] _ (by simp)) rfl (one_ints [en.k, en.v]) (by simp only [maxLen]; omega) (by omega) (by simp; omega) ?_; intro A8 c8 w8 o8 ch8 d8 _)
        have hB8 : Below w.heap.size w w8 := ((hB.alloc hsz _).alloc (by simp; omega) _).trans (ch8.below (fun q hq e => by have := hrg q e; omega) (by simp; omega))
        have oz8 := own_chg (own_alloc (own_alloc (unhide HOZ wr (Below.refl _ _)) (.cells #[.int .i64 en.k, .int .i64 en.v] 85)) (.cells #[.int .i64 en.k, .int .i64 en.v] 3)) ch8 (fun q h1 h2 => hne q h2 h1)
        have hs8 := ch8.size
        go_roundw
        case rel => exact ⟨k + 1, A8, c8, by omega, by go_num, by simp; omega, by rw [← unhide HT]; simpa [Nat.mul_add, Nat.add_assoc] using o8, by rw [← unhide HAE]; exact oz8, hB8, by simp at hs8; omega⟩
        case measure => simp [intOf]; omega
      · obtain rfl : k = zs.length := by omega
        rw [List.take_length] at hown
        have hlen : ([1, (rs.length : Int)] ++ zs.flatMap entN).length = 2 + 2 * zs.length := by rw [List.length_append, entN_len]; rfl
        have KS := sum_impl 3 A' c' ([1, (rs.length : Int)] ++ zs.flatMap entN) wr (own_rd hown) (by omega)
        rw [hlen, ← unhide HS] at KS
        clear hlen
        go_wp2_with fail
        refine KS.mono ?_
        rintro e w' ⟨rfl, rfl⟩
        go_wp2
        go_ret
        exact ⟨rfl, hB⟩
set_option maxRecDepth 100000 in
set_option maxHeartbeats 4000000 in
theorem effectsSum_impl (A : Option Addr) (c : Nat) (es : List Eff) (P : Nat → Prop) (w : World) (h : RdD effR P w A es) (hb : es.length ≤ 1000000) (hbs : ∀ x ∈ es, x.reads.length ≤ 400000 ∧ x.writes.length ≤ 400000) :
    Calls Tryz.prog 88 #[.slice A es.length c] w fun e w' => e = .returned (.int .i64 (effsSum es)) ∧ Below w.heap.size w w' := by
  have HBS := hide hbs
  clear hbs
  by_cases hl : es.length ≤ 10
  · have HS := hide (show effsSum es = sumF 4 (es.map effSum) by rw [effsSum, if_pos hl])
    have i2 : ¬ (10 : Int) < (es.length : Int) := by omega
    clear hl
    go_enter Tryz.func88, Tryz.ntmps88
    go_wp2
    go_loopw [3, 5, 11] (fun ns _ i wr => ∃ (k : Nat) (A' : Option Addr) (c' : Nat), k ≤ es.length ∧ i = .int .i64 k ∧ ns = .slice A' k c' ∧ wr.ownsRow w.heap.size 3 1 (.slice A' k c') k (((es.take k).map effSum).map (.int .i64)) ∧ Below w.heap.size w wr) (fun _ _ i _ => es.length - (intOf i).toNat)
    case atStart => exact ⟨0, none, 0, Nat.zero_le _, rfl, rfl, own_nil _ _ _ _, Below.refl _ _⟩
    case round =>
      obtain ⟨k, A', c', hk, rfl, rfl, hown, hB⟩ := hrel
      have hsz := hB.size
      by_cases hlt : k < es.length
      · have i1 : (k : Int) < (es.length : Int) := by omega
        obtain ⟨b, off, A1, c1, A2, c2, hAe, hbP, hbb, d0, d1, d2, hl1, hl2, r1, r2⟩ := (h.new eff_good hB).eff hlt
        have hbx := unhide HBS es[k] (List.getElem_mem hlt)
        have HT := hide (show (es.take (k + 1)).map effSum = (es.take k).map effSum ++ [effSum es[k]] by rw [List.take_succ_eq_append_getElem hlt, List.map_append]; rfl)
        generalize es[k] = x at *
        have HAE := hide hAe
        clear hAe hl1 hl2 hbP
        have KE := effectSum_impl x A1 c1 A2 c2 (wr.alloc (.cells #[.bool x.done, .slice A1 x.reads.length c1, .slice A2 x.writes.length c2] 83)) (r1.rd.new ((Below.refl _ _).alloc (Nat.le_refl _) _)) (r2.rd.new ((Below.refl _ _).alloc (Nat.le_refl _) _)) hbx.1 hbx.2
        rw [unhide HAE]
        go_wp2_with fail
        refine KE.mono ?_
        rintro e w3 ⟨rfl, b3⟩
        clear KE
        have o3 := own_new (own_alloc hown (.cells #[.bool x.done, .slice A1 x.reads.length c1, .slice A2 x.writes.length c2] 83)) b3
        have hB3 := bthen (hB.alloc hsz (.cells #[.bool x.done, .slice A1 x.reads.length c1, .slice A2 x.writes.length c2] 83)) b3
        have hs3 := hB3.size
        have hrg := own_rng hown
        clear b3
        generalize effSum x = z at *
        go_wp2_with (at_builtin; refine wpList_app rfl (.tmp 15) (.tmp 18) 25 rfl el_int rfl (own_alloc o3 _) rfl (rd_lit w3 [.int .i64 z] _) rfl (one_ints [z]) (by simp only [maxLen]; omega) (by omega) (by simp; omega) ?_; intro A8 c8 w8 o8 ch8 d8 _)
        have hB8 : Below w.heap.size w w8 := (hB3.alloc (by omega) _).trans (ch8.below (fun q hq e => by have := hrg q e; omega) (by simp; omega))
        go_roundw
        case rel => exact ⟨k + 1, A8, c8, by omega, by go_num, rfl, by rw [unhide HT, List.map_append]; simpa using o8, hB8⟩
        case measure => simp [intOf]; omega
      · obtain rfl : k = es.length := by omega
        rw [List.take_length] at hown
        have KS := sum_impl 4 A' c' (es.map effSum) wr (own_rd hown) (by rw [List.length_map]; omega)
        rw [List.length_map, ← unhide HS] at KS
        go_wp2_with fail
        refine KS.mono ?_
        rintro e w' ⟨rfl, rfl⟩
        go_wp2
        go_ret
        exact ⟨rfl, hB⟩
  · have HS := hide (show effsSum es = -1 by rw [effsSum, if_neg hl])
    have i2 : (10 : Int) < (es.length : Int) := by omega
    clear hl
    go_enter Tryz.func88, Tryz.ntmps88
    go_wp2
    go_ret
    exact ⟨reti (unhide HS).symm, Below.refl _ _⟩
end Go.Proofs.YtefdhlfljpppfaaGreat
namespace Go.Proofs.YtefdhlfljpppfaaGreat
open Go.RowKit
set_option linter.unusedVariables false
set_option linter.unusedSimpArgs false

theorem el_bool : El Tryz.prog 45 4 1 1 := El.mk_ (z := .bool false) Tryz.underlying45 (by kernel_rfl) rfl (by omega)
theorem Rd.boo {w : World} {A : Option Addr} {zs : List Bool} (h : Rd w A (zs.map Value.bool)) {k : Nat} (hk : k < zs.length) :
    ∃ b off, A = some ⟨b, off, none⟩ ∧ b < w.heap.size ∧ w.cell? ⟨b, off + k, none⟩ = some (.bool zs[k]) := by
  obtain ⟨b, off, rfl, hb, hc⟩ := h (by simp; omega)
  exact ⟨b, off, rfl, hb, hc k _ (by simp [hk])⟩
theorem one_bools (zs : List Bool) : ∀ u ∈ zs.map Value.bool, u.oneCell' = true := by
  intro u hu
  obtain ⟨z, _, rfl⟩ := List.mem_map.1 hu
  rfl
def markB (k : Int) (n : Nat) : List Bool := (List.range n).map fun i : Nat => (k + (i : Int)) % 3 == 0
theorem markB_succ (k : Int) (n : Nat) : markB k (n + 1) = markB k n ++ [(k + n) % 3 == 0] := by simp [markB, List.range_succ]
theorem markB_length (k : Int) (n : Nat) : (markB k n).length = n := by simp [markB]
theorem markB_get (k : Int) (n i : Nat) (h : i < (markB k n).length) : (markB k n)[i] = ((k + i) % 3 == 0) := by simp [markB]

end Go.Proofs.YtefdhlfljpppfaaGreat
namespace Go.Proofs.YtefdhlfljpppfaaGreat
open Go.RowKit
set_option linter.unusedVariables false
set_option linter.unusedSimpArgs false

/-- the values before a block -/
def aheadV (t : Tr) (k : Nat) : List Int := afterV t (pathT t (pAt t k))
theorem aheadV_zero {t : Tr} (h : treeB t = true) : aheadV t 0 = valsL t.base := by
  have h0 := (treeB_yes h).2.2.2.2.2.1
  unfold aheadV
  rw [h0, pathT_out t (by omega)]
  rfl
theorem after_step {t : Tr} (h : treeB t = true) {k : Nat} (hk : k < t.blocks.length) : afterV t (pathT t (k : Int)) = runAllV (aheadV t k) (bAt t k).list := by
  rw [pathT_step h (n := (k : Int)) (by omega) (by omega), afterV_snoc]
  simp [aheadV]
theorem valOk_ahead {t : Tr} (h : treeB t = true) (k : Nat) : valOk (aheadV t k) := valOk_after h _ fun x hx => pathT_mem hx
/-- is a block one over a store? -/
def blkRightB (b : Bk) (s : List Ent) : Bool := blkB b && (storeB s && (b.root == rootL (serialS s b.list) && b.eff == effsSum (serialE s b.list)))
/-- are a block and all before it right? -/
def rightN (t : Tr) : Nat → List Bool
  | 0 => []
  | n + 1 => rightN t n ++ [blkRightB (bAt t n) (storeL (aheadV t n)) && (n == 0 || (rightN t n).getD (pAt t n).toNat false)]
theorem rightN_len (t : Tr) : ∀ n, (rightN t n).length = n
  | 0 => rfl
  | n + 1 => by rw [rightN, List.length_append, rightN_len t n]; rfl
def bEnts (xs : List Ent) (v : Value) (w : World) : Prop := ∃ A c, v = .slice A xs.length c ∧ Rd w A (xs.flatMap encE)
theorem sb_Ents (xs : List Ent) : StB (bEnts xs) := fun _ _ _ hb ⟨A, c, h1, h2⟩ => ⟨A, c, h1, h2.new hb⟩
set_option maxRecDepth 100000 in
set_option maxHeartbeats 4000000 in
theorem ahead_impl (t : Tr) (A1 : Option Addr) (c1 : Nat) (A2 : Option Addr) (c2 : Nat) (A3 : Option Addr) (c3 : Nat) (k : Nat) (w : World) (h : TrR w t A1 A2 A3) (hv : treeB t = true) (hk : k < t.blocks.length) :
    Calls Tryz.prog 49 #[.agg (trA t A1 c1 A2 c2 A3 c3), .int .i64 (k : Int)] w fun e w' => e = .returned (.agg (vA (aheadV t k))) ∧ Below w.heap.size w w' := by
  have HV := hide hv
  have hb1 : t.base.length ≤ 32 := store_len (treeB_yes hv).1
  have hkb : ∀ e ∈ t.base, 0 ≤ e.k ∧ e.k ≤ 31 := fun e he => by have := evOk_all (treeB_yes hv).1 e he; omega
  have HKB := hide hkb
  have hbl : t.before.length = t.blocks.length := (treeB_yes hv).2.2.2.1
  have hk3 : k < t.before.length := by omega
  clear hbl
  have hp := pAt_lt hv hk
  have hpz := hide (fun hz : k = 0 => (show aheadV t k = valsL t.base by subst hz; exact aheadV_zero hv))
  have hsz : (vA (aheadV t k)).size = 32 := by rw [vA_size]; exact (valOk_ahead hv k).1
  clear hv hkb
  have HR := hide (fun w' (hb : Below w.heap.size w w') => h.new hb)
  obtain ⟨W, hW⟩ : ∃ W : World, W = (w.alloc (.cells (trA t A1 c1 A2 c2 A3 c3) 27)).alloc (.cells zA 76) := ⟨_, rfl⟩
  have hb0 : Below w.heap.size w W := by rw [hW]; exact ((Below.refl _ _).alloc (Nat.le_refl _) _).alloc (by simp) _
  have K0 : Blk W w.heap.size 27 (trA t A1 c1 A2 c2 A3 c3) := by rw [hW]; exact (Blk.new _ _ _).alloc _
  have K1 : Blk W (w.heap.size + 1) 76 zA := by
    rw [hW]
    have := Blk.new (w.alloc (.cells (trA t A1 c1 A2 c2 A3 c3) 27)) 76 zA
    simpa using this
  have x0 : W.cell? ⟨w.heap.size, 0, none⟩ = some (.slice A1 t.base.length c1) := K0.cell 0
  have x1 : W.cell? ⟨w.heap.size, 1, none⟩ = some (.slice A2 t.blocks.length c2) := K0.cell 1
  have x2 : W.cell? ⟨w.heap.size, 2, none⟩ = some (.slice A3 t.before.length c3) := K0.cell 2
  have KV := valuesOf_any A1 c1 t.base W ((unhide HR W hb0).b1) (by omega) (unhide HKB)
  have KA := hide (after_impl t A1 c1 A2 c2 A3 c3 (pAt t k) W.drew ((unhide HR W hb0).drewN 1) (unhide HV) hp.1 (by omega))
  obtain ⟨bq, offq, hA3, hbb, d0⟩ := ((unhide HR W hb0).b3).int hk3
  rw [← pAt_get t hk3] at d0
  have HAV := hide (show aheadV t k = afterV t (pathT t (pAt t k)) from rfl)
  generalize aheadV t k = av at *
  generalize pAt t k = pk at *
  have hgz : zA.size = 32 := rfl
  have HEND := hide (fun (w' : World) (u : List Int) (hu : (vA u).size = 32) (K : Blk w' (w.heap.size + 1) 76 zA) (hB : Below w.heap.size w w') => show Blk (w'.setRow (w.heap.size + 1) (vA u)) (w.heap.size + 1) 76 (vA u) ∧ Below w.heap.size w (w'.setRow (w.heap.size + 1) (vA u)) from ⟨blk_setRow K, ⟨hB.os, hB.tape, hB.output, by rw [size_setRow]; exact hB.size, fun q hq => (setRow_other w' (w.heap.size + 1) q _ (by omega)).trans (hB.block q hq)⟩⟩)
  simp only [trA] at K0 hW KA ⊢
  clear h
  by_cases hz : k = 0
  · have HE := hide (unhide hpz hz)
    have hls : (vA (valsL t.base)).size = 32 := by rw [vA_size, valsL_len]
    subst hz
    clear hpz d0 hA3 KA
    go_enter Tryz.func49, Tryz.ntmps49
    subst hW
    go_wp2_with fail
    refine KV.mono ?_
    rintro e w3 ⟨rfl, b3⟩
    have K3 := K1.new_ b3
    have hB3 := bthen hb0 b3
    clear KV b3 x0 x1 x2 K0 K1
    go_wp2_with (refine wpList_store_row rfl 76 (.tmp 4) (.tmp 9) rfl (w.heap.size + 1) (vA (valsL t.base)) rfl rfl 76 zA K3 (by rw [hls]; exact info_vals) (by rw [hls]; rfl) (vA_one _) ?_)
    obtain ⟨k4, b4⟩ := unhide HEND w3 _ hls K3 hB3
    refine bodyPost_ret (v := .agg (vA (valsL t.base))) (results_cell_row (p := 4) (ty := 76) rfl _ _ (w.heap.size + 1) 76 (vA (valsL t.base)) (0, 0) _ rfl k4 Tryz.underlying76 rfl (by rw [hls]; exact info_vals)) rfl ⟨by rw [unhide HE], b4⟩
  · have hkz : ((k : Int) == 0) = false := by simp; exact hz
    have hkz2 : ¬ (k : Int) = 0 := by omega
    have i1 : (k : Int) < (t.before.length : Int) := by omega
    have HA := hide hA3
    clear hpz hz KV hA3
    rw [unhide HA] at x2 hW K0 KA ⊢
    go_enter Tryz.func49, Tryz.ntmps49
    unfold zA at hW
    go_upto_region 3 with fail
    rw [← hW]
    clear hW
    go_still_tail 6, (by kernel_rfl)
    change wpList _ _ _ _ _ W.drew
    go_wp2_with fail
    refine (unhide KA).mono ?_
    rintro e w3 ⟨rfl, b3⟩
    have b3' := below_undrew b3
    have K3 := K1.new_ b3'
    have hB3 := bthen hb0 b3'
    clear b3 x0 x1 x2 K0 K1
    rw [← unhide HAV]
    go_wp2_with (refine wpList_store_row rfl 76 (.tmp 4) (.tmp 16) rfl (w.heap.size + 1) (vA av) rfl rfl 76 zA K3 (by rw [hsz]; exact info_vals) (by rw [hsz]; rfl) (vA_one _) ?_)
    obtain ⟨k4, b4⟩ := unhide HEND w3 _ hsz K3 hB3
    refine bodyPost_ret (v := .agg (vA av)) (results_cell_row (p := 4) (ty := 76) rfl _ _ (w.heap.size + 1) 76 (vA av) (0, 0) _ rfl k4 Tryz.underlying76 rfl (by rw [hsz]; exact info_vals)) rfl ⟨rfl, b4⟩
set_option maxRecDepth 100000 in
set_option maxHeartbeats 4000000 in
theorem blockRight_impl (x : Bk) (A : Option Addr) (c : Nat) (B : Option Addr) (cs : Nat) (s : List Ent) (w : World) (h : Rd w A (x.list.flatMap encA)) (hb : x.list.length ≤ 4611686018427387904) (hs : Rd w B (s.flatMap encE)) (hbs : s.length ≤ 4611686018427387904) :
    Calls Tryz.prog 51 #[.agg #[.int .i64 x.before, .int .i64 x.height, .int .i64 x.view, .slice A x.list.length c, .int .i64 x.root, .int .i64 x.eff], .slice B s.length cs] w fun e w' => e = .returned (.bool (blkRightB x s)) ∧ Below w.heap.size w w' := by
  have k0 := Blk.new w 50 #[.int .i64 x.before, .int .i64 x.height, .int .i64 x.view, .slice A x.list.length c, .int .i64 x.root, .int .i64 x.eff]
  have hb0 : Below w.heap.size w (w.alloc (.cells #[.int .i64 x.before, .int .i64 x.height, .int .i64 x.view, .slice A x.list.length c, .int .i64 x.root, .int .i64 x.eff] 50)) := (Below.refl _ _).alloc (Nat.le_refl _) _
  generalize hW : w.alloc (.cells #[.int .i64 x.before, .int .i64 x.height, .int .i64 x.view, .slice A x.list.length c, .int .i64 x.root, .int .i64 x.eff] 50) = W at *
  have KB := blockValid_impl x A c W (h.new hb0) hb
  have z0 : W.cell? ⟨w.heap.size, 0, none⟩ = some _ := k0.cell 0
  have z1 : W.cell? ⟨w.heap.size, 1, none⟩ = some _ := k0.cell 1
  have z2 : W.cell? ⟨w.heap.size, 2, none⟩ = some _ := k0.cell 2
  have z3 : W.cell? ⟨w.heap.size, 3, none⟩ = some _ := k0.cell 3
  have z4 : W.cell? ⟨w.heap.size, 4, none⟩ = some _ := k0.cell 4
  have z5 : W.cell? ⟨w.heap.size, 5, none⟩ = some _ := k0.cell 5
  cases hv : blkB x
  · have HR := hide (show blkRightB x s = false by simp [blkRightB, hv])
    go_enter Tryz.func51, Tryz.ntmps51
    subst hW
    go_wp2_with fail
    refine KB.mono ?_
    rintro e w1 ⟨rfl, b1⟩
    rw [hv]
    go_wp2
    go_ret
    exact ⟨retb (unhide HR).symm, bthen hb0 b1⟩
  cases hsv : storeB s
  · have HR := hide (show blkRightB x s = false by simp [blkRightB, hsv])
    go_enter Tryz.func51, Tryz.ntmps51
    subst hW
    go_wp2_with fail
    refine KB.mono ?_
    rintro e w1 ⟨rfl, b1⟩
    rw [hv]
    go_wp2_with fail
    refine (storeB_impl B cs s w1 (hs.new (bthen hb0 b1)) hbs).mono ?_
    rintro e w2 ⟨rfl, b2⟩
    rw [hsv]
    go_wp2
    go_ret
    exact ⟨retb (unhide HR).symm, bthen hb0 (bthen b1 b2)⟩
  have HR := hide (show blkRightB x s = (x.root == rootL (serialS s x.list) && x.eff == effsSum (serialE s x.list)) by simp [blkRightB, hv, hsv])
  go_enter Tryz.func51, Tryz.ntmps51
  subst hW
  go_wp2_with fail
  refine KB.mono ?_
  rintro e w1 ⟨rfl, b1⟩
  rw [hv]
  clear KB hv z0 z1 z2 z3 z4 z5
  go_wp2_with fail
  refine (storeB_impl B cs s w1 (hs.new (bthen hb0 b1)) hbs).mono ?_
  rintro e w2 ⟨rfl, b2⟩
  rw [hsv]
  clear hsv
  have b12 := bthen b1 b2
  have k2 := k0.new_ b12
  have hB2 := bthen hb0 b12
  have z3 : w2.cell? ⟨w.heap.size, 3, none⟩ = some _ := k2.cell 3
  clear b1 b2 b12 k0 hb0
  go_wp2_with fail
  refine (runSerial_impl B cs s A c x.list w2 (hs.new hB2) hbs (h.new hB2) hb).mono ?_
  rintro e w3 ⟨B1, e1, B2, e2, rfl, oS, -, rE, b3⟩
  have rS := own_rd oS
  have hl1 := serialS_len s x.list
  have hl2 := serialE_len s x.list
  have HES := hide (serialE_small s x.list)
  generalize serialS s x.list = ss at *
  generalize serialE s x.list = es at *
  have k3 := k2.new_ b3
  have hB3 := bthen hB2 b3
  have HX := hide (fun (w' : World) (b : Below w3.heap.size w3 w') => show w'.cell? ⟨w.heap.size, 4, none⟩ = some (.int .i64 x.root) ∧ w'.cell? ⟨w.heap.size, 5, none⟩ = some (.int .i64 x.eff) from ⟨(k3.new_ b).cell 4, (k3.new_ b).cell 5⟩)
  have HRS := hide (fun (w' : World) (b : Below w3.heap.size w3 w') => rS.new b)
  have HRE := hide (fun (w' : World) (b : Below w3.heap.size w3 w') => rE.new eff_good b)
  clear oS rS rE b3 k3 k2 z3 h hs hB2
  have KRT := hide (fun (w' : World) (b : Below w3.heap.size w3 w') => rootOf_impl B1 e1 ss w' (unhide HRS w' b) (by omega))
  have KEF := hide (fun (w' : World) (b : Below w3.heap.size w3 w') => effectsSum_impl B2 e2 es _ w' (unhide HRE w' b) (by omega) (fun z hz => by have := unhide HES z hz; omega))
  clear HRS HRE HES
  generalize rootL ss = r at *
  generalize effsSum es = ef at *
  have hrr : (r == r) = true := by simp
  by_cases hr : x.root = r
  · have HR2 := hide (show blkRightB x s = (x.eff == ef) by rw [unhide HR, hr]; simp)
    clear HR
    rw [hr] at HX
    clear hr
    have hF : StBL [bV (.pointer (some ⟨w.heap.size, 4, none⟩)), bV (.int .i64 r), bV (.slice B1 ss.length e1), bV (.int .i64 r), bV (.bool true), bV (.bool true), bV (.pointer (some ⟨w.heap.size, 5, none⟩)), bV (.int .i64 x.eff), bV (.slice B2 es.length e2), bV (.int .i64 ef)] :=
      ⟨sb_V _, sb_V _, sb_V _, sb_V _, sb_V _, sb_V _, sb_V _, sb_V _, sb_V _, sb_V _, trivial⟩
    go_upto_region 4 with fail
    refine wp_region_loc (by kernel_rfl) [(0, some 22), (1, some 23), (2, some 24), (3, some 25), (4, some 26), (5, some 27), (6, some 28), (7, some 29), (8, some 30), (9, some 31)] [[], [(0, some 22)], [], [(2, some 24)], [(1, some 23), (3, some 25)], [(4, some 26)], [(5, some 27)], [(5, some 27), (6, some 28)], [(5, some 27)], [(5, some 27), (8, some 30)]] (by kernel_rfl)
      (locB _) (fun a b => Below a.heap.size a b) noR [0, 0, 0, 0, 0, 0, 0, 0, 0, 0] 0 (by kernel_rfl) (fun _ => Below.refl _ _) (fun _ _ _ => bthen) (locB_st hF _) trivial ?_ ?_
    · refine steps_cons ?s0 ( steps_cons ?s1 ( steps_cons ?s2 ( steps_cons ?s3 ( steps_cons ?s4 ( steps_cons ?s5 ( steps_cons ?s6 ( steps_cons ?s7 ( steps_cons ?s8 ( steps_cons ?s9 steps_nil)))))))))
      case s0 =>
        intro w' m' hE hR
        intro Q hQ
        go_wp2
        exact hQ _ _ _ rfl rfl (Below.refl _ _) trivial
      case s1 =>
        intro w' m' hE hR
        rintro _ rfl Q hQ
        have bb := below_undrew hE
        obtain ⟨y0, y1⟩ := unhide HX w' bb
        go_wp2
        exact hQ _ _ _ rfl rfl (Below.refl _ _) trivial
      case s2 =>
        intro w' m' hE hR
        intro Q hQ
        go_wp2
        exact hQ _ _ _ rfl rfl (Below.refl _ _) trivial
      case s3 =>
        intro w' m' hE hR
        rintro _ rfl Q hQ
        have bb := below_undrew hE
        go_wp2_with fail
        refine (unhide KRT w' bb).mono ?_
        rintro e w5 ⟨rfl, b5⟩
        go_wp2
        exact hQ _ _ _ rfl rfl b5 trivial
      case s4 =>
        intro w' m' hE hR
        rintro _ rfl _ rfl Q hQ
        go_wp2
        exact hQ _ _ _ rfl rfl (Below.refl _ _) trivial
      case s5 =>
        intro w' m' hE hR
        rintro _ rfl Q hQ
        go_wp2
        exact hQ _ _ _ rfl rfl (Below.refl _ _) trivial
      case s6 =>
        intro w' m' hE hR
        rintro _ rfl Q hQ
        go_wp2
        exact hQ _ _ _ rfl rfl (Below.refl _ _) trivial
      case s7 =>
        intro w' m' hE hR
        rintro _ rfl _ rfl Q hQ
        have bb := below_undrew hE
        obtain ⟨y0, y1⟩ := unhide HX w' bb
        go_wp2
        exact hQ _ _ _ rfl rfl (Below.refl _ _) trivial
      case s8 =>
        intro w' m' hE hR
        rintro _ rfl Q hQ
        go_wp2
        exact hQ _ _ _ rfl rfl (Below.refl _ _) trivial
      case s9 =>
        intro w' m' hE hR
        rintro _ rfl _ rfl Q hQ
        have bb := below_undrew hE
        go_wp2_with fail
        refine (unhide KEF w' bb).mono ?_
        rintro e w5 ⟨rfl, b5⟩
        go_wp2
        exact hQ _ _ _ rfl rfl b5 trivial
    intro w9 hE _
    rintro v0 - v1 - v2 - v3 - v4 - v5 hv5 v6 - v7 hv7 v8 - v9 hv9
    obtain rfl : v5 = _ := hv5
    obtain rfl : v7 = _ := hv7
    obtain rfl : v9 = _ := hv9
    change wpList _ _ _ [_, _, _] _ _
    simp only [Act.put, List.setIfInBounds_toArray, List.set_cons_succ, List.set_cons_zero]
    have b9 := below_undrew hE
    clear hE hF
    go_wp2
    go_ret
    exact ⟨retb (unhide HR2).symm, bthen hB3 b9⟩
  · have HR2 := hide (show blkRightB x s = false by rw [unhide HR]; simp [hr])
    have hr2 : (x.root == r) = false := by simp [hr]
    clear HR
    have hF : StBL [bV (.pointer (some ⟨w.heap.size, 4, none⟩)), bV (.int .i64 x.root), bV (.slice B1 ss.length e1), bV (.int .i64 r), bV (.bool false), bV (.bool false), pV (fun _ => True), pV (fun _ => True), pV (fun _ => True), pV (fun _ => True)] :=
      ⟨sb_V _, sb_V _, sb_V _, sb_V _, sb_V _, sb_V _, fun _ _ _ _ h => h, fun _ _ _ _ h => h, fun _ _ _ _ h => h, fun _ _ _ _ h => h, trivial⟩
    go_upto_region 4 with fail
    refine wp_region_loc (by kernel_rfl) [(0, some 22), (1, some 23), (2, some 24), (3, some 25), (4, some 26), (5, some 27), (6, some 28), (7, some 29), (8, some 30), (9, some 31)] [[], [(0, some 22)], [], [(2, some 24)], [(1, some 23), (3, some 25)], [(4, some 26)], [(5, some 27)], [(5, some 27), (6, some 28)], [(5, some 27)], [(5, some 27), (8, some 30)]] (by kernel_rfl)
      (locB _) (fun a b => Below a.heap.size a b) noR [0, 0, 0, 0, 0, 0, 0, 0, 0, 0] 0 (by kernel_rfl) (fun _ => Below.refl _ _) (fun _ _ _ => bthen) (locB_st hF _) trivial ?_ ?_
    · refine steps_cons ?s0 ( steps_cons ?s1 ( steps_cons ?s2 ( steps_cons ?s3 ( steps_cons ?s4 ( steps_cons ?s5 ( steps_cons ?s6 ( steps_cons ?s7 ( steps_cons ?s8 ( steps_cons ?s9 steps_nil)))))))))
      case s0 =>
        intro w' m' hE hR
        intro Q hQ
        go_wp2
        exact hQ _ _ _ rfl rfl (Below.refl _ _) trivial
      case s1 =>
        intro w' m' hE hR
        rintro _ rfl Q hQ
        have bb := below_undrew hE
        obtain ⟨y0, y1⟩ := unhide HX w' bb
        go_wp2
        exact hQ _ _ _ rfl rfl (Below.refl _ _) trivial
      case s2 =>
        intro w' m' hE hR
        intro Q hQ
        go_wp2
        exact hQ _ _ _ rfl rfl (Below.refl _ _) trivial
      case s3 =>
        intro w' m' hE hR
        rintro _ rfl Q hQ
        have bb := below_undrew hE
        go_wp2_with fail
        refine (unhide KRT w' bb).mono ?_
        rintro e w5 ⟨rfl, b5⟩
        go_wp2
        exact hQ _ _ _ rfl rfl b5 trivial
      case s4 =>
        intro w' m' hE hR
        rintro _ rfl _ rfl Q hQ
        go_wp2
        exact hQ _ _ _ rfl rfl (Below.refl _ _) trivial
      case s5 =>
        intro w' m' hE hR
        rintro _ rfl Q hQ
        go_wp2
        exact hQ _ _ _ rfl rfl (Below.refl _ _) trivial
      case s6 =>
        intro w' m' hE hR
        rintro _ rfl Q hQ
        go_wp2
        exact hQ undef _ _ rfl trivial (Below.refl _ _) trivial
      case s7 =>
        intro w' m' hE hR
        rintro _ rfl _ - Q hQ
        go_wp2
        exact hQ undef _ _ rfl trivial (Below.refl _ _) trivial
      case s8 =>
        intro w' m' hE hR
        rintro _ rfl Q hQ
        go_wp2
        exact hQ undef _ _ rfl trivial (Below.refl _ _) trivial
      case s9 =>
        intro w' m' hE hR
        rintro _ rfl _ - Q hQ
        go_wp2
        exact hQ undef _ _ rfl trivial (Below.refl _ _) trivial
    intro w9 hE _
    rintro v0 - v1 - v2 - v3 - v4 - v5 hv5 v6 - v7 - v8 - v9 -
    obtain rfl : v5 = _ := hv5
    change wpList _ _ _ [_, _, _] _ _
    simp only [Act.put, List.setIfInBounds_toArray, List.set_cons_succ, List.set_cons_zero]
    have b9 := below_undrew hE
    clear hE hF
    go_wp2
    go_ret
    exact ⟨retb (unhide HR2).symm, bthen hB3 b9⟩
set_option maxRecDepth 100000 in
set_option maxHeartbeats 2000000 in
theorem rightBlocks_impl (t : Tr) (A1 : Option Addr) (c1 : Nat) (A2 : Option Addr) (c2 : Nat) (A3 : Option Addr) (c3 : Nat) (w : World) (h : TrR w t A1 A2 A3) (hv : treeB t = true) (hb1 : t.base.length ≤ 1099511627776) (hb2 : t.blocks.length ≤ 1099511627776) (hbs : ∀ x ∈ t.blocks, x.list.length ≤ 1099511627776) (hb3 : t.before.length ≤ 1099511627776) :
    Calls Tryz.prog 18 #[.agg (trA t A1 c1 A2 c2 A3 c3)] w fun e w' => ∃ A' c', e = .returned (.slice A' t.blocks.length c') ∧ w'.ownsRow w.heap.size 4 1 (.slice A' t.blocks.length c') t.blocks.length ((rightN t t.blocks.length).map .bool) ∧ Below w.heap.size w w' := by
  have HBS := hide hbs
  clear hbs
  have HV := hide hv
  obtain ⟨W, hW⟩ : ∃ W : World, W = w.alloc (.cells (trA t A1 c1 A2 c2 A3 c3) 27) := ⟨_, rfl⟩
  have hb0 : Below w.heap.size w W := by rw [hW]; exact (Below.refl _ _).alloc (Nat.le_refl _) _
  have K0 : Blk W w.heap.size 27 (trA t A1 c1 A2 c2 A3 c3) := by rw [hW]; exact Blk.new _ _ _
  have HR := hide (fun w' (hb : Below W.heap.size W w') => h.new (bthen hb0 hb))
  have hWs : w.heap.size < W.heap.size := K0.lt
  have BX := hide (fun w' (hb : Below W.heap.size W w') => show w'.cell? ⟨w.heap.size, 0, none⟩ = some (.slice A1 t.base.length c1) ∧ w'.cell? ⟨w.heap.size, 1, none⟩ = some (.slice A2 t.blocks.length c2) ∧ w'.cell? ⟨w.heap.size, 2, none⟩ = some (.slice A3 t.before.length c3) from ⟨(K0.new_ hb).cell 0, (K0.new_ hb).cell 1, (K0.new_ hb).cell 2⟩)
  have KV := treeValid_impl t A1 c1 A2 c2 A3 c3 W (unhide HR _ (Below.refl _ _)) hb1 hb2 (unhide HBS) hb3
  rw [hv] at KV
  have HA := hide (fun w' (hb : Below W.heap.size W w') (k : Nat) (hk : k < t.blocks.length) => ahead_impl t A1 c1 A2 c2 A3 c3 k w' (unhide HR w' hb) (unhide HV) hk)
  have HBL := hide (treeB_yes hv).2.2.2.1
  have hb14 : t.blocks.length ≤ 14 := (treeB_yes hv).2.2.1
  obtain ⟨x0, x1, x2⟩ := unhide BX W (Below.refl _ _)
  simp only [trA] at K0 hW KV HA ⊢
  clear h K0 hv
  go_enter Tryz.func18, Tryz.ntmps18
  go_wp2_with fail
  rw [← hW]
  clear hW
  refine KV.mono ?_
  rintro e w3 ⟨rfl, b3⟩
  clear KV x0 x1 x2
  obtain ⟨z0, z1, z2⟩ := unhide BX w3 b3
  have hB3 := bthen hb0 b3
  go_wp2
  go_loopw [3, 4, 5, 6, 13] (fun r _ _ _ i wr => ∃ (k : Nat) (A' : Option Addr) (c' : Nat), k ≤ t.blocks.length ∧ i = .int .i64 k ∧ r = .slice A' k c' ∧ wr.ownsRow W.heap.size 4 1 (.slice A' k c') k ((rightN t k).map .bool) ∧ Below W.heap.size W wr) (fun _ _ _ _ i _ => t.blocks.length - (intOf i).toNat)
  case atStart => exact ⟨0, none, 0, Nat.zero_le _, rfl, rfl, own_nil _ _ _ _, b3⟩
  case round =>
    clear b3 hB3 z0 z1 z2
    obtain ⟨k, A', c', hk, rfl, rfl, hown, hB⟩ := hrel
    by_cases hlt : k < t.blocks.length
    · have i1 : (k : Int) < (t.blocks.length : Int) := by omega
      have hbw := bthen hb0 hB
      obtain ⟨y0, y1, y2⟩ := unhide BX wr hB
      obtain ⟨bq, offq, L1, e1, hA2, -, hbb, d0, d1, d2, d3, d4, d5, -, q1⟩ := (unhide HR wr hB).b2.bk hlt
      have hll := unhide HBS t.blocks[k] (List.getElem_mem hlt)
      have HT := hide (show rightN t (k + 1) = rightN t k ++ [blkRightB t.blocks[k] (storeL (aheadV t k)) && (k == 0 || (rightN t k).getD (pAt t k).toNat false)] by rw [rightN, bAt_get t hlt])
      have HAK := hide (fun w' hb => unhide HA w' hb k hlt)
      have hp := pAt_lt (unhide HV) hlt
      have hp0 := hide (fun (h0 : 0 < k) => show 0 ≤ pAt t k from by have := inB_true.1 (by have := (treeB_yes (unhide HV)).2.2.2.2.2.2.2 k h0 hlt; rw [nodeOk, Bool.and_eq_true] at this; exact this.1); omega)
      have hvl := (valOk_ahead (unhide HV) k).1
      have hrl := rightN_len t k
      have hk3 : k < t.before.length := by have := unhide HBL; omega
      obtain ⟨b3, off3, hA3, hb3b, u0⟩ := (unhide HR wr hB).b3.int hk3
      rw [← pAt_get t hk3] at u0
      have q1r : Rd wr L1 (t.blocks[k].list.flatMap encA) := q1.rd
      generalize t.blocks[k] = x at *
      generalize aheadV t k = av at *
      generalize pAt t k = pk at *
      have hstl := storeL_len av
      have HA2 := hide hA2
      have HA3 := hide hA3
      have hown2 := own_alloc hown (.cells #[.int .i64 x.before, .int .i64 x.height, .int .i64 x.view, .slice L1 x.list.length e1, .int .i64 x.root, .int .i64 x.eff] 50)
      have hsw := hbw.size
      have kx := Blk.new wr 50 #[.int .i64 x.before, .int .i64 x.height, .int .i64 x.view, .slice L1 x.list.length e1, .int .i64 x.root, .int .i64 x.eff]
      have bx1 : Below wr.heap.size wr (wr.alloc (.cells #[.int .i64 x.before, .int .i64 x.height, .int .i64 x.view, .slice L1 x.list.length e1, .int .i64 x.root, .int .i64 x.eff] 50)) := (Below.refl _ _).alloc (Nat.le_refl _) _
      have HX := hide (fun (w' : World) (b : Below (wr.alloc (.cells #[.int .i64 x.before, .int .i64 x.height, .int .i64 x.view, .slice L1 x.list.length e1, .int .i64 x.root, .int .i64 x.eff] 50)).heap.size (wr.alloc (.cells #[.int .i64 x.before, .int .i64 x.height, .int .i64 x.view, .slice L1 x.list.length e1, .int .i64 x.root, .int .i64 x.eff] 50)) w') => show (w'.cell? ⟨wr.heap.size, 0, none⟩ = some (.int .i64 x.before) ∧ w'.cell? ⟨wr.heap.size, 1, none⟩ = some (.int .i64 x.height) ∧ w'.cell? ⟨wr.heap.size, 2, none⟩ = some (.int .i64 x.view) ∧ w'.cell? ⟨wr.heap.size, 3, none⟩ = some (.slice L1 x.list.length e1) ∧ w'.cell? ⟨wr.heap.size, 4, none⟩ = some (.int .i64 x.root) ∧ w'.cell? ⟨wr.heap.size, 5, none⟩ = some (.int .i64 x.eff)) ∧ (w'.cell? ⟨w.heap.size, 0, none⟩ = some (.slice A1 t.base.length c1) ∧ w'.cell? ⟨w.heap.size, 1, none⟩ = some (.slice A2 t.blocks.length c2) ∧ w'.cell? ⟨w.heap.size, 2, none⟩ = some (.slice A3 t.before.length c3)) ∧ w'.cell? ⟨b3, off3 + k, none⟩ = some (.int .i64 pk) ∧ Rd w' L1 (x.list.flatMap encA) ∧ w'.ownsRow W.heap.size 4 1 (.slice A' k c') k ((rightN t k).map .bool) ∧ Below W.heap.size W w' from by
        have b1 := bthen bx1 b
        exact ⟨⟨(kx.new_ b).cell 0, (kx.new_ b).cell 1, (kx.new_ b).cell 2, (kx.new_ b).cell 3, (kx.new_ b).cell 4, (kx.new_ b).cell 5⟩, unhide BX w' (bthen hB b1), (b1.cell (p := ⟨b3, off3 + k, none⟩) hb3b).trans u0, q1r.new b1, own_new hown2 b, bthen hB b1⟩)
      rw [unhide HA2]
      clear hown hown2 hA2 hA3 u0 q1 q1r kx bx1
      go_wp2
      have hF : StBL [bV (.agg #[.int .i64 x.before, .int .i64 x.height, .int .i64 x.view, .slice L1 x.list.length e1, .int .i64 x.root, .int .i64 x.eff]), bV (.agg #[.slice A1 t.base.length c1, .slice A2 t.blocks.length c2, .slice A3 t.before.length c3]), bV (.int .i64 (k : Int)), bV (.agg (vA av)), bEnts (storeL av)] :=
        ⟨sb_V _, sb_V _, sb_V _, sb_V _, sb_Ents _, trivial⟩
      go_upto_region 7 with fail
      refine wp_region_loc (by kernel_rfl) [(0, some 18), (1, some 19), (2, some 20), (3, some 21), (4, some 22)] [[], [], [], [(1, some 19), (2, some 20)], [(3, some 21)]] (by kernel_rfl)
        (locB _) (fun a b => Below a.heap.size a b) noR [0, 0, 0, 0, 0] 0 (by kernel_rfl) (fun _ => Below.refl _ _) (fun _ _ _ => bthen) (locB_st hF _) trivial ?_ ?_
      · refine steps_cons ?s0 ( steps_cons ?s1 ( steps_cons ?s2 ( steps_cons ?s3 ( steps_cons ?s4 steps_nil))))
        case s0 =>
          intro w' m' hE hR
          intro Q hQ
          obtain ⟨⟨s0, s1, s2, s3, s4, s5⟩, ⟨s6, s7, s8⟩, s9, s10, s11, s12⟩ := unhide HX w' (below_undrew hE)
          go_wp2
          exact hQ _ _ _ rfl rfl (Below.refl _ _) trivial
        case s1 =>
          intro w' m' hE hR
          intro Q hQ
          obtain ⟨⟨s0, s1, s2, s3, s4, s5⟩, ⟨s6, s7, s8⟩, s9, s10, s11, s12⟩ := unhide HX w' (below_undrew hE)
          go_wp2
          exact hQ _ _ _ rfl rfl (Below.refl _ _) trivial
        case s2 =>
          intro w' m' hE hR
          intro Q hQ
          go_wp2
          exact hQ _ _ _ rfl rfl (Below.refl _ _) trivial
        case s3 =>
          intro w' m' hE hR
          rintro _ rfl _ rfl Q hQ
          obtain ⟨⟨s0, s1, s2, s3, s4, s5⟩, ⟨s6, s7, s8⟩, s9, s10, s11, s12⟩ := unhide HX w' (below_undrew hE)
          go_wp2_with fail
          refine (unhide HAK w' s12).mono ?_
          rintro e w5 ⟨rfl, b5⟩
          go_wp2
          exact hQ _ _ _ rfl rfl b5 trivial
        case s4 =>
          intro w' m' hE hR
          rintro _ rfl Q hQ
          go_wp2_with fail
          refine (store_any av w' hvl).mono ?_
          rintro e w5 ⟨A5, c5, rfl, o5, b5⟩
          go_wp2
          exact hQ _ _ _ rfl ⟨A5, c5, rfl, own_rd o5⟩ b5 trivial
      intro w9 hE _
      rintro v0 hv0 v1 - v2 - v3 - v4 ⟨A5, c5, rfl, r5⟩
      obtain rfl : v0 = _ := hv0
      change wpList _ _ _ [_, _] _ _
      simp only [Act.put, List.setIfInBounds_toArray, List.set_cons_succ, List.set_cons_zero]
      have b9 := below_undrew hE
      clear hE hF
      obtain ⟨⟨s0, s1, s2, s3, s4, s5⟩, ⟨s6, s7, s8⟩, s9, s10, s11, s12⟩ := unhide HX w9 b9
      go_wp2_with fail
      refine (blockRight_impl x L1 e1 A5 c5 (storeL av) w9 s10 (by omega) r5 (by omega)).mono ?_
      rintro e w10 ⟨rfl, b10⟩
      obtain ⟨-, ⟨s6, s7, s8⟩, s9, -, o10, b10'⟩ := unhide HX w10 (bthen b9 b10)
      clear r5 b9 b10 HX s0 s1 s2 s3 s4 s5 s10 s11 s12
      have hs10 : W.heap.size ≤ w10.heap.size := b10'.size
      have hrg := own_rng o10
      generalize blkRightB x (storeL av) = rb at *
      have fin : ∀ (b : Bool) (A8 : Option Addr) (c8 : Nat) (w8 : World), b = (rb && (k == 0 || (rightN t k).getD pk.toNat false)) → w8.ownsRow W.heap.size 4 1 (.slice A8 (k + 1) c8) (k + 1) ((rightN t k).map .bool ++ [.bool b]) → w8.ownsRow W.heap.size 4 1 (.slice A8 (k + 1) c8) (k + 1) ((rightN t (k + 1)).map .bool) := fun b A8 c8 w8 hb ho => by rw [unhide HT, List.map_append, ← hb]; exact ho
      have FIN := hide fin
      clear fin
      cases rb
      · skip
        go_wp2_with (at_builtin; refine wpList_app rfl (.tmp 24) (.tmp 40) 45 rfl el_bool rfl (own_alloc o10 _) rfl (rd_lit w10 [.bool false] _) rfl (one_bools [false]) (by simp only [maxLen]; omega) (by omega) (by simp; omega) ?_; intro A8 c8 w8 o8 ch8 d8 _)
        have hB8 := (b10'.alloc b10'.size (.cells #[.bool false] 4)).trans (ch8.below (fun q hq e => by have := hrg q e; omega) (by simp; omega))
        go_roundw
        case rel => exact ⟨k + 1, A8, c8, by omega, by go_num, rfl, unhide FIN false A8 c8 w8 (by simp) (by simpa using o8), hB8⟩
        case measure => simp [intOf]; omega
      by_cases hz : k = 0
      · have hkz : ((k : Int) == 0) = true := by simp; exact hz
        have HZ0 := hide hz
        clear hz
        go_wp2_with (at_builtin; refine wpList_app rfl (.tmp 24) (.tmp 40) 45 rfl el_bool rfl (own_alloc o10 _) rfl (rd_lit w10 [.bool true] _) rfl (one_bools [true]) (by simp only [maxLen]; omega) (by omega) (by simp; omega) ?_; intro A8 c8 w8 o8 ch8 d8 _)
        have hB8 := (b10'.alloc b10'.size (.cells #[.bool true] 4)).trans (ch8.below (fun q hq e => by have := hrg q e; omega) (by simp; omega))
        go_roundw
        case rel => exact ⟨k + 1, A8, c8, by omega, by go_num, rfl, unhide FIN true A8 c8 w8 (by simp [unhide HZ0]) (by simpa using o8), hB8⟩
        case measure => simp [intOf]; omega
      have hkz : ((k : Int) == 0) = false := by simp; exact hz
      have hkz2 : ¬ (k : Int) = 0 := by omega
      have hpk := unhide hp0 (by omega)
      obtain ⟨q, rfl⟩ := Int.eq_ofNat_of_zero_le hpk
      have hqk : q < k := by omega
      have hqk2 : (q : Int) < (k : Int) := by omega
      obtain ⟨g, hg, hg1, hg2⟩ := own_addr o10 (by omega)
      subst hg
      have hcl : w10.cell? ⟨g, q, none⟩ = some (.bool ((rightN t k).getD q false)) := by rw [own_cell o10 q (by simp [hrl]; omega)]; simp [List.getD_eq_getElem?_getD, hrl, hqk]
      rw [unhide HA3] at s8
      have HZ := hide hz
      clear hz
      have HGB := hide (show ∀ z, z = (rightN t k).getD q false → z = (true && (k == 0 || (rightN t k).getD (q : Int).toNat false)) from fun z hz2 => by rw [hz2]; simp [unhide HZ])
      generalize hgb : (rightN t k).getD q false = gb at *
      have HGC := hide hgb
      clear hgb
      go_wp2_with (at_builtin; refine wpList_app rfl (.tmp 24) (.tmp 40) 45 rfl el_bool rfl (own_alloc o10 _) rfl (rd_lit w10 [.bool gb] _) rfl (one_bools [gb]) (by simp only [maxLen]; omega) (by omega) (by simp; omega) ?_; intro A8 c8 w8 o8 ch8 d8 _)
      have hB8 := (b10'.alloc b10'.size (.cells #[.bool gb] 4)).trans (ch8.below (fun q hq e => by have := hrg q e; omega) (by simp; omega))
      go_roundw
      case rel => exact ⟨k + 1, A8, c8, by omega, by go_num, rfl, unhide FIN gb A8 c8 w8 (unhide HGB gb rfl) (by simpa using o8), hB8⟩
      case measure => simp [intOf]; omega
    · obtain rfl : k = t.blocks.length := by omega
      go_wp2
      go_ret
      exact ⟨A', c', rfl, own_base hown (by omega), bthen hb0 hB⟩
end Go.Proofs.YtefdhlfljpppfaaGreat
namespace Go.Proofs.YtefdhlfljpppfaaGreat
open Go.RowKit
set_option linter.unusedVariables false
set_option linter.unusedSimpArgs false

/-- the operations of the head have come up in part; then those of the tail, in order -/
def LInvZ (P : Program) (l : List Oper) (nh : Nat) (a0 : Go.Act) (w0 : World) (F : Nat → Value → World → Prop) (E : World → World → Prop) (R : Array Bool → (Nat → Value) → World → Prop)
    (Q : Exit → Go.Act → World → Prop) (listed : Array Bool) (a : Go.Act) (w : World) : Prop :=
  listed.size = l.length ∧ (∀ i j, listed.getD i false = true → has (clOf l) i j = true → listed.getD j false = true) ∧
  ((∃ i, i < nh ∧ listed.getD i false = false ∧ ∃ vs, Agree l nh a0 listed vs a ∧ (∀ j, j < nh → listed.getD j false = true → F j (vs j) w) ∧ E w0 w ∧ R listed vs w) ∨
   (∃ k, nh + k ≤ l.length ∧ (∀ i, listed.getD i false = true ↔ i < nh + k) ∧ wpList P l.toArray Q (l.drop (nh + k)) a w))

theorem wp_region_setZ {P : Program} {id : Nat} {l : List Oper} {Q : Exit → Go.Act → World → Prop} {a0 : Go.Act} {w : World} (hm : P.follows .mixedOrders = true)
    (head : List (Nat × Option Tmp)) (deps : List (List (Nat × Option Tmp))) (hok : okAll l head deps = true)
    (F : Nat → Value → World → Prop) (E : World → World → Prop) (R : Array Bool → (Nat → Value) → World → Prop)
    (hEr : ∀ w, E w w) (hEt : ∀ a b c, E a b → E b c → E a c) (hFE : ∀ i v a b, i < head.length → F i v a → E a b → F i v b)
    (hR0 : R (Array.replicate l.toArray.size false) (fun _ => undef) w.drew)
    (hstep : steps (fun i o => ∀ w' (L : Array Bool) (vs : Nat → Value), E w.drew w' → L.size = l.length → L.getD i false = false → (∀ i' j, L.getD i' false = true → has (clOf l) i' j = true → L.getD j false = true) → R L vs w' → tele (fun j v w => F j v w ∧ v = vs j) w' (fun c => ∀ Q' : Exit → Go.Act → World → Prop, (∀ v a'' w'', a'' = c.put o.dst v → F i v w'' → E w' w'' → R (L.setIfInBounds i true) (fun j => if j = i then v else vs j) w'' → Q' .normal a'' w'') → wpList P l.toArray Q' [o] c w') (deps.getD i []) a0) 0 (l.take head.length))
    (hdone : ∀ w' (L : Array Bool) (vs : Nat → Value), E w.drew w' → (∀ j, j < head.length → L.getD j false = true) → R L vs w' → tele (fun j v w => F j v w ∧ v = vs j) w' (fun c => wpList P l.toArray Q (l.drop head.length) c w') head a0) :
    (Code.region id l.toArray true).wp P Q a0 w := by
  simp only [okAll, Bool.and_eq_true, decide_eq_true_eq] at hok
  obtain ⟨⟨⟨⟨⟨⟨⟨⟨hnh, hCl0⟩, hDeps⟩, hLook⟩, hDst⟩, hTail⟩, hSel⟩, hPairs⟩, hHead⟩ := hok
  simp only [okHead, Bool.and_eq_true, beq_iff_eq, List.all_eq_true] at hHead
  obtain ⟨hHead1, hHead2⟩ := hHead
  have pair1 : ∀ i, i < head.length → ∀ p ∈ deps.getD i [], dstOf l p.1 = p.2 := by
    intro i hi p hp
    simp only [okPairs, List.all_eq_true, List.mem_range] at hPairs
    simpa using hPairs i hi p hp
  have fst1 : ∀ i, (fsts deps).getD i [] = (deps.getD i []).map Prod.fst := by
    intro i
    unfold fsts
    rw [List.getD_eq_getElem?_getD, List.getD_eq_getElem?_getD, List.getElem?_map]
    cases deps[i]? <;> rfl
  generalize hnhe : head.length = nh at *
  simp only [okCl, Bool.and_eq_true] at hCl0
  obtain ⟨hBack, hCl⟩ := hCl0
  -- the checks, as facts
  have cl1 : ∀ i j, i < l.length → has (clOf l) i j = true → ∃ o, l[i]? = some o ∧ ∃ e ∈ o.after, Region.binds .any e = true ∧ (e.on = j ∨ has (clOf l) e.on j = true) := by
    intro i j hi hj
    simp only [List.all_eq_true, List.mem_range] at hCl
    have h1 := hCl i hi
    rw [List.getElem?_eq_getElem hi] at h1
    simp only [Option.map_some, Option.getD_some, beq_iff_eq] at h1
    unfold has at hj
    rw [h1] at hj
    rcases clRow_from _ _ hj with h | ⟨e, he, hb, h⟩
    · simp at h
    · exact ⟨l[i], List.getElem?_eq_getElem hi, e, by simpa using he, hb, h⟩
  have back1 : ∀ i (hi : i < l.length), ∀ e ∈ (l[i]).after, Region.binds .any e = true → e.on < i := by
    intro i hi e he hb
    simp only [List.all_eq_true, List.mem_range] at hBack
    have h1 := hBack i hi
    rw [List.getElem?_eq_getElem hi] at h1
    simp only [Option.map_some, Option.getD_some] at h1
    have h2 := Array.all_eq_true_iff_forall_mem.1 h1 e he
    simpa [hb] using h2
  have gd : ∀ (L : Array Bool) j, j < L.size → L.getD j true = L.getD j false := by
    intro L j hj
    rw [Array.getD_eq_getD_getElem?, Array.getD_eq_getD_getElem?]
    simp [hj]
  have dep1 : ∀ i j, i < nh → j ∈ (fsts deps).getD i [] → j < nh ∧ has (clOf l) i j = true := by
    intro i j hi hj
    simp only [okDeps, List.all_eq_true, List.mem_range] at hDeps
    have h1 := hDeps i hi j hj
    simpa using h1
  have look1 : ∀ i o t j, i < nh → l[i]? = some o → t ∈ o.looksAt l.toArray → j < nh → dstOf l j = some t → j ∈ (fsts deps).getD i [] ∨ has (clOf l) j i = true ∨ j = i := by
    intro i o t j hi ho ht hj hd
    simp only [okLook, List.all_eq_true, List.mem_range] at hLook
    have h1 := hLook i hi
    rw [ho] at h1
    simp only [Option.map_some, Option.getD_some, List.all_eq_true, List.mem_range] at h1
    have h2 := h1 t ht j hj
    rw [hd] at h2
    simp at h2
    rcases h2 with (h2 | h2) | h2
    · exact .inl (by simpa using h2)
    · exact .inr (.inl (by simpa using h2))
    · exact .inr (.inr h2)
  have dst1 : ∀ i j t, i < nh → j < nh → dstOf l i = some t → dstOf l j = some t → i = j := by
    intro i j t hi hj h1 h2
    simp only [okDst, List.all_eq_true, List.mem_range] at hDst
    have h3 := hDst i hi j hj
    rw [h1, h2] at h3
    simpa using h3
  have tail1 : ∀ i j, i < l.length → nh ≤ i → j < i → has (clOf l) i j = true := by
    intro i j hi hn hj
    simp only [okTail, List.all_eq_true, List.mem_range] at hTail
    have h1 := hTail i hi
    simp only [Bool.or_eq_true, decide_eq_true_eq, List.all_eq_true, List.mem_range] at h1
    exact (h1.resolve_left (by omega)) j hj
  refine wp_region_any hm (wpAny_inv (I := LInvZ P l nh a0 w.drew F E R Q) ?_ ?_ _ _ _ _ ?_ ?_)
  · -- a step
    rintro listed a w' i ⟨hsz, hcl, hI⟩ hr
    obtain ⟨hun, hil⟩ := ready_get hr
    have hil : i < l.length := by simpa using hil
    have ho : l.toArray[i]? = some l[i] := by simp [hil]
    have hol : l[i]? = some l[i] := List.getElem?_eq_getElem hil
    have hall : ∀ j, has (clOf l) i j = true → listed.getD j false = true := by
      intro j hj
      obtain ⟨o, ho', e, he, hb, h2⟩ := cl1 i j hil hj
      rw [hol] at ho'
      injection ho' with ho'
      subst ho'
      have h3 := ready_after hr ho e he hb
      rcases h2 with h2 | h2
      · rwa [h2] at h3
      · exact hcl _ _ h3 h2
    have hcl' : ∀ i' j, (listed.setIfInBounds i true).getD i' false = true → has (clOf l) i' j = true → (listed.setIfInBounds i true).getD j false = true := by
      intro i' j h1 h2
      rw [set_get hun] at h1 ⊢
      rcases h1 with h1 | h1
      · subst h1; exact .inr (hall j h2)
      · exact .inr (hcl _ _ h1 h2)
    have hunl : listed.getD i false = false := by rw [Array.getD_eq_getD_getElem?, hun]; rfl
    rcases hI with ⟨i0, hi0, hi0u, vs, hag, hF, hE, hR⟩ | ⟨k, hk, hlk, hwp⟩
    · have hinh : i < nh := by
        rcases Nat.lt_or_ge i nh with h | h
        · exact h
        · have := hall i0 (tail1 i i0 hil h (by omega))
          rw [hi0u] at this
          cases this
      have hst := steps_get hstep (show (l.take nh)[i]? = some l[i] by rw [List.getElem?_take]; simp [hinh, hil])
      rw [Nat.zero_add] at hst
      have hgo := tele_fill vs _ (pair1 i hinh) _ (hst w' listed vs hE hsz hunl hcl hR) (fun j hj => by rw [← fst1] at hj; exact ⟨hF j (dep1 i j hinh hj).1 (hall j (dep1 i j hinh hj).2), rfl⟩)
      replace hgo := hgo (LPost fun a'' w'' => ∃ v, a'' = (fillA l vs a0 ((deps.getD i []).map Prod.fst)).put (l[i]).dst v ∧ F i v w'' ∧ E w' w'' ∧ R (listed.setIfInBounds i true) (fun j => if j = i then v else vs j) w'') (fun v a'' w'' h1 h2 h3 h4 => ⟨v, h1, h2, h3, h4⟩)
      rw [← fst1] at hgo
      -- the frames agree on what is looked at
      have hlook : ∀ t ∈ (l[i]).looksAt l.toArray, a.tmps[t]? = (fillA l vs a0 ((fsts deps).getD i [])).tmps[t]? := by
        intro t ht
        by_cases hex : ∃ j ∈ (fsts deps).getD i [], dstOf l j = some t
        · obtain ⟨j, hj, hd⟩ := hex
          obtain ⟨hjn, hjc⟩ := dep1 i j hinh hj
          rw [hag.new t j hjn (by rw [gd _ _ (by omega)]; exact hall j hjc) hd]
          exact (fill_get vs _ _ hj hd (fun j' hj' hd' => dst1 _ _ t (dep1 i j' hinh hj').1 hjn hd' hd)).symm
        · rw [fill_other vs _ _ (fun j hj hd => hex ⟨j, hj, hd⟩)]
          refine hag.old t fun j hj hlj hd => ?_
          rcases look1 i _ t j hinh hol ht hj hd with h | h | h
          · exact hex ⟨j, h, hd⟩
          · have hlj' : listed.getD j false = true := by rw [← gd _ _ (by omega)]; exact hlj
            have := hcl _ _ hlj' h
            rw [hunl] at this
            cases this
          · subst h
            rw [gd _ _ (by omega), hunl] at hlj
            cases hlj
      have hop : ∀ x ∈ (l[i]).op.operands, a.eval x = (fillA l vs a0 ((fsts deps).getD i [])).eval x := fun x hx => eval_of_get fun t e => hlook t (by
        subst e
        exact List.mem_append_left _ (List.mem_filterMap.2 ⟨.tmp t, by simpa using hx, rfl⟩))
      have hwant : Region.wanted l[i] (yielded l.toArray a.tmps) = Region.wanted l[i] (yielded l.toArray (fillA l vs a0 ((fsts deps).getD i [])).tmps) := by
        unfold Region.wanted
        cases hg : (l[i]).guard with
        | none => rfl
        | some gw =>
          obtain ⟨g, want⟩ := gw
          have hy : yielded l.toArray a.tmps g = yielded l.toArray (fillA l vs a0 ((fsts deps).getD i [])).tmps g := by
            unfold yielded
            cases ht : (l.toArray[g]?).bind (·.dst) with
            | none => rfl
            | some t =>
              have := hlook t (by simp only [Oper.looksAt, hg]; exact List.mem_append_right _ (by rw [ht]; simp))
              simp only [Option.bind_some, this]
          simp only [hy]
      -- the new state
      have hnew : ∀ v w'', F i v w'' → E w' w'' → R (listed.setIfInBounds i true) (fun j => if j = i then v else vs j) w'' → LInvZ P l nh a0 w.drew F E R Q (listed.setIfInBounds i true) (a.put (l[i]).dst v) w'' := by
        intro v w'' hFv hEv hRv
        have hdi : dstOf l i = (l[i]).dst := by simp [dstOf, hol]
        have hag' : Agree l nh a0 (listed.setIfInBounds i true) (fun j => if j = i then v else vs j) (a.put (l[i]).dst v) := by
          refine ⟨(put_size _ _ _).trans hag.size, (put_defers _ _ _).trans hag.defers, fun t ht => ?_, fun t j hj hlj hd => ?_⟩
          · have h1 : (l[i]).dst ≠ some t := by
              rw [← hdi]
              exact ht i hinh (by rw [Array.getD_eq_getD_getElem?]; simp [show i < listed.size by omega])
            have h2 : (a.put (l[i]).dst v).tmps[t]? = a.tmps[t]? := by
              cases hx : (l[i]).dst with
              | none => rfl
              | some d => rw [hx] at h1; simp only [Go.Act.put]; rw [Array.getElem?_setIfInBounds_ne (fun e => h1 (by rw [e]))]
            rw [h2]
            refine hag.old t fun j hj hlj => ht j hj ?_
            rw [Array.getD_eq_getD_getElem?] at hlj ⊢
            by_cases hji : i = j
            · subst hji; simp [show i < listed.size by omega]
            · rw [Array.getElem?_setIfInBounds_ne hji]; exact hlj
          · by_cases hji : j = i
            · subst hji
              rw [hdi] at hd
              rw [hd, put_get, if_pos rfl]
              by_cases hts : t < a.tmps.size
              · have : t < a0.tmps.size := by rw [← hag.size]; exact hts
                simp [hts, this]
              · have h1 : a.tmps.size ≤ t := Nat.not_lt.1 hts
                have h2 : a0.tmps.size ≤ t := by rw [← hag.size]; exact h1
                rw [Array.getElem?_eq_none h1, Array.getElem?_eq_none h2]
            · have h2 : (a.put (l[i]).dst v).tmps[t]? = a.tmps[t]? := by
                cases hx : (l[i]).dst with
                | none => rfl
                | some d =>
                  simp only [Go.Act.put]
                  rw [Array.getElem?_setIfInBounds_ne]
                  intro e
                  subst e
                  exact hji (dst1 j i d hj hinh hd (hdi.trans hx))
              rw [h2, if_neg hji]
              refine hag.new t j hj ?_ hd
              rw [Array.getD_eq_getD_getElem?] at hlj ⊢
              rwa [Array.getElem?_setIfInBounds_ne (fun e => hji e.symm)] at hlj
        have hF' : ∀ j, j < nh → (listed.setIfInBounds i true).getD j false = true → F j (if j = i then v else vs j) w'' := by
          intro j hj hlj
          by_cases hji : j = i
          · subst hji; rw [if_pos rfl]; exact hFv
          · rw [if_neg hji]
            rw [set_get hun] at hlj
            exact hFE j _ _ _ hj (hF j hj (hlj.resolve_left hji)) hEv
        refine ⟨by simpa using hsz, hcl', ?_⟩
        by_cases hex : ∃ j, j < nh ∧ (listed.setIfInBounds i true).getD j false = false
        · obtain ⟨j, hj, hju⟩ := hex
          exact .inl ⟨j, hj, hju, _, hag', hF', hEt _ _ _ hE hEv, hRv⟩
        · have hfull : ∀ j, j < nh → (listed.setIfInBounds i true).getD j false = true := by
            intro j hj
            cases hq : (listed.setIfInBounds i true).getD j false with
            | false => exact absurd ⟨j, hj, hq⟩ hex
            | true => rfl
          refine .inr ⟨0, by omega, fun j => ⟨fun hlj => ?_, fun hj => hfull j (by omega)⟩, ?_⟩
          · rcases Nat.lt_or_ge j nh with h | h
            · omega
            · rw [set_get hun] at hlj
              rcases hlj with hlj | hlj
              · omega
              · have hjl : j < l.length := by
                  rw [Array.getD_eq_getD_getElem?] at hlj
                  cases hq : listed[j]? with
                  | none => rw [hq] at hlj; cases hlj
                  | some b => have := (Array.getElem?_eq_some_iff.1 hq).1; omega
                have := hcl j i0 hlj (tail1 j i0 hjl h (by omega))
                rw [hi0u] at this
                cases this
          · have hfin := tele_fill (fun j => if j = i then v else vs j) _ (by simpa using hHead2) _ (hdone w'' _ (fun j => if j = i then v else vs j) (hEt _ _ _ hE hEv) hfull hRv) (fun j hj => by rw [hHead1] at hj; exact ⟨hF' j (List.mem_range.1 hj) (hfull j (List.mem_range.1 hj)), rfl⟩)
            rw [hHead1] at hfin
            have hact : a.put (l[i]).dst v = fillA l (fun j => if j = i then v else vs j) a0 (List.range nh) := by
              have h1 : (a.put (l[i]).dst v).defers = (fillA l (fun j => if j = i then v else vs j) a0 (List.range nh)).defers := hag'.defers.trans (fill_defers _ _ _).symm
              have h2 : (a.put (l[i]).dst v).tmps = (fillA l (fun j => if j = i then v else vs j) a0 (List.range nh)).tmps := by
                refine Array.ext_getElem? fun t => ?_
                by_cases hex : ∃ j, j < nh ∧ dstOf l j = some t
                · obtain ⟨j, hj, hd⟩ := hex
                  rw [hag'.new t j hj (by rw [gd _ _ (by simp; omega)]; exact hfull j hj) hd]
                  exact (fill_get (fun j => if j = i then v else vs j) _ _ (List.mem_range.2 hj) hd (fun j' hj' hd' => dst1 _ _ t (List.mem_range.1 hj') hj hd' hd)).symm
                · rw [fill_other _ _ _ (fun j hj hd => hex ⟨j, List.mem_range.1 hj, hd⟩)]
                  exact hag'.old t fun j hj _ hd => hex ⟨j, hj, hd⟩
              cases hA : a.put (l[i]).dst v
              cases hB : fillA l (fun j => if j = i then v else vs j) a0 (List.range nh)
              rw [hA, hB] at h1 h2
              simp only [] at h1 h2
              rw [h1, h2]
            rw [hact]
            exact hfin
      -- the operation itself
      unfold wpOp
      rw [ho]
      simp only []
      unfold wpList at hgo
      rw [← hwant] at hgo
      split
      · rename_i hw
        rw [if_pos hw] at hgo
        rcases hgo with hgo | ⟨_, x, y, hgo⟩
        · refine .inl (Oper.wp_mono ?_ (wp_move (G := fun v w'' => F i v w'' ∧ E w' w'' ∧ R (listed.setIfInBounds i true) (fun j => if j = i then v else vs j) w'') (Region.noSelect_spec hSel i l[i] · · ho) ?_ hop ?_))
          · rintro a'' w'' ⟨v, rfl, h1, h2, h3⟩
            exact hnew v w'' h1 h2 h3
          · rw [fill_size, hag.size]
          · exact hgo
        · exact absurd hgo (by simp [LPost])
      · rename_i hw
        rw [if_neg hw] at hgo
        obtain ⟨v, h0, h1, h2, h3⟩ : ∃ v, _ = (fillA l vs a0 ((fsts deps).getD i [])).put (l[i]).dst v ∧ F i v w' ∧ E w' w' ∧ R _ _ w' := hgo
        have := put_same (a := a) (by rw [fill_size, hag.size]) h0
        rw [this]
        exact hnew v w' h1 h2 h3
    · have hin : i = nh + k := by
        have h1 : ¬ i < nh + k := fun h => by have := (hlk i).2 h; rw [hunl] at this; cases this
        rcases Nat.lt_or_ge (nh + k) i with h | h
        · have := (hlk (nh + k)).1 (hall (nh + k) (tail1 i (nh + k) hil (by omega) h))
          omega
        · omega
      subst hin
      have hdrop : l.drop (nh + k) = l[nh + k] :: l.drop (nh + k + 1) := List.drop_eq_getElem_cons hil
      rw [hdrop] at hwp
      unfold wpList at hwp
      have hgoal : ∀ a' w'', wpList P l.toArray Q (l.drop (nh + k + 1)) a' w'' → LInvZ P l nh a0 w.drew F E R Q (listed.setIfInBounds (nh + k) true) a' w'' := by
        intro a' w'' h
        refine ⟨by simpa using hsz, hcl', .inr ⟨k + 1, by omega, fun j => ?_, h⟩⟩
        rw [set_get hun, hlk]
        omega
      unfold wpOp
      rw [ho]
      simp only []
      split
      · rename_i hw
        rw [if_pos hw] at hwp
        exact hwp.imp (Oper.wp_mono hgoal) (fun h => h)
      · rename_i hw
        rw [if_neg hw] at hwp
        exact hgoal _ _ hwp
  · -- the end
    rintro listed a w' ⟨hsz, hcl, hI⟩ hr
    have hno : ∀ i, i < l.length → listed.getD i false = false → (∀ j, j < i → listed.getD j false = true) → False := by
      intro i hi hu hj
      have : i ∈ Region.ready .any l.toArray listed := by
        rw [mem_ready]
        refine ⟨by rw [Array.getD_eq_getD_getElem?] at hu ⊢; simp [show i < listed.size by omega] at hu ⊢; exact hu, l[i], by simp [hi], fun e he hb => hj _ (back1 i hi e he hb)⟩
      rw [hr] at this
      cases this
    have hmin : ∀ n, n ≤ l.length → (∀ j, j < n → listed.getD j false = true) := by
      intro n
      induction n with
      | zero => intro _ j hj; omega
      | succ n ih =>
        intro hn j hj
        have h1 := ih (by omega)
        by_cases hjn : j = n
        · subst hjn
          cases hq : listed.getD j false with
          | true => rfl
          | false => exact (hno j (by omega) hq h1).elim
        · exact h1 j (by omega)
    rcases hI with ⟨i0, hi0, hi0u, _⟩ | ⟨k, hk, hlk, hwp⟩
    · have := hmin l.length (Nat.le_refl _) i0 (by omega)
      rw [hi0u] at this
      cases this
    · have : nh + k = l.length := by
        rcases Nat.lt_or_ge (nh + k) l.length with h | h
        · have := (hlk (nh + k)).1 (hmin l.length (Nat.le_refl _) _ h)
          omega
        · omega
      rw [this, List.drop_length] at hwp
      exact hwp
  · have : unl (Array.replicate l.toArray.size false) ≤ (Array.replicate l.toArray.size false).toList.length := List.length_filter_le _ _
    simpa using this
  · have hno : ∀ j, (Array.replicate l.toArray.size false).getD j false = false := by
      intro j
      rw [Array.getD_eq_getD_getElem?, Array.getElem?_replicate]
      split <;> rfl
    refine ⟨by simp, fun i j h _ => (by rw [hno] at h; cases h), ?_⟩
    rcases Nat.eq_zero_or_pos nh with h0 | h0
    · subst h0
      refine .inr ⟨0, by omega, fun i => ⟨fun h => (by rw [hno] at h; cases h), fun h => by omega⟩, ?_⟩
      have : head = [] := List.eq_nil_of_length_eq_zero hnhe
      subst this
      exact hdone _ _ (fun _ => undef) (hEr _) (fun j hj => by simp at hj) hR0
    · refine .inl ⟨0, h0, hno 0, fun _ => undef, ⟨rfl, rfl, fun _ _ => rfl, fun t j hj h => ?_⟩, fun j hj h => (by rw [hno] at h; cases h), hEr _, ?_⟩
      · rw [gd _ _ (by simp; omega), hno] at h
        cases h
      · exact hR0
/-- one operation (s) writes: the operations of `bef` come up before it -/
theorem wp_region_vals {P : Program} {id : Nat} {l : List Oper} {Q : Exit → Go.Act → World → Prop} {a0 : Go.Act} {w : World} (hm : P.follows .mixedOrders = true)
    (head : List (Nat × Option Tmp)) (deps : List (List (Nat × Option Tmp))) (hok : okAll l head deps = true) (s : Nat) (bef : List Nat) (hbef : (decide (s < head.length) && bef.all fun j => has (clOf l) s j) = true)
    (F : Nat → Value → World → Prop) (E : World → World → Prop) (R : Bool → (Nat → Value) → World → Prop)
    (hEr : ∀ w, E w w) (hEt : ∀ a b c, E a b → E b c → E a c) (hFE : ∀ i v a b, i < head.length → F i v a → E a b → F i v b)
    (hR0 : R false (fun _ => undef) w.drew)
    (hstep : steps (fun i o => ∀ w' b vs, E w.drew w' → (i = s ∨ i ∈ bef → b = false) → R b vs w' → tele (fun j v w => F j v w ∧ v = vs j) w' (fun c => ∀ Q' : Exit → Go.Act → World → Prop, (∀ v a'' w'', a'' = c.put o.dst v → F i v w'' → E w' w'' → R (i == s || b) (fun j => if j = i then v else vs j) w'' → Q' .normal a'' w'') → wpList P l.toArray Q' [o] c w') (deps.getD i []) a0) 0 (l.take head.length))
    (hdone : ∀ w' vs, E w.drew w' → R true vs w' → tele (fun j v w => F j v w ∧ v = vs j) w' (fun c => wpList P l.toArray Q (l.drop head.length) c w') head a0) :
    (Code.region id l.toArray true).wp P Q a0 w := by
  simp only [Bool.and_eq_true, decide_eq_true_eq, List.all_eq_true] at hbef
  obtain ⟨hs, hbef⟩ := hbef
  have hnh : head.length ≤ l.length := by
    simp only [okAll, Bool.and_eq_true, decide_eq_true_eq] at hok
    exact hok.1.1.1.1.1.1.1.1
  refine wp_region_setZ hm head deps hok F E (fun L v w => R (L.getD s false) v w) hEr hEt hFE ?_ ?_ ?_
  · have : (Array.replicate l.toArray.size false).getD s false = false := by
      rw [Array.getD_eq_getD_getElem?, Array.getElem?_replicate]
      split <;> rfl
    rw [this]
    exact hR0
  · refine steps_imp hstep fun i o hi h w' L vs hE hsz hun hcl hR => ?_
    have hb : i = s ∨ i ∈ bef → L.getD s false = false := by
      rintro (h | h)
      · rw [← h]; exact hun
      · cases hq : L.getD s false with
        | false => rfl
        | true =>
          have := hcl s i hq (hbef i h)
          rw [hun] at this
          cases this
    have h2 := h w' (L.getD s false) vs hE hb hR
    have hset : (L.setIfInBounds i true).getD s false = (i == s || L.getD s false) := by
      by_cases his : i = s
      · subst his
        rw [Array.getD_eq_getD_getElem?]
        simp [show i < L.size by omega]
      · rw [getD_set_ne false his]
        simp [his]
    refine tele_imp (deps.getD i []) _ _ (fun c hc Q' hQ' => hc Q' fun v a'' w'' h1 h3 h4 h5 => hQ' v a'' w'' h1 h3 h4 ?_) _ h2
    show R ((L.setIfInBounds i true).getD s false) _ w''
    rw [hset]
    exact h5
  · intro w' L vs hE hall hR
    rw [hall s hs] at hR
    exact hdone w' vs hE hR
end Go.Proofs.YtefdhlfljpppfaaGreat
namespace Go.Proofs.YtefdhlfljpppfaaGreat
open Go.RowKit
set_option linter.unusedVariables false
set_option linter.unusedSimpArgs false

def hasOf (h : Nat) (es : List Ent) : Nat := es.foldl (fun h e => h ||| 2 ^ e.k.toNat) h
theorem hasOf_snoc (h : Nat) (es : List Ent) (e : Ent) : hasOf h (es ++ [e]) = hasOf h es ||| 2 ^ e.k.toNat := by simp [hasOf]
theorem hasOf_append (h : Nat) (es fs : List Ent) : hasOf h (es ++ fs) = hasOf (hasOf h es) fs := by simp [hasOf]
theorem hasOf_bit (h : Nat) (es : List Ent) (k : Nat) : (hasOf h es).testBit k = (h.testBit k || es.any fun e => e.k.toNat == k) := by
  induction es generalizing h with
  | nil => simp [hasOf]
  | cons e es ih =>
    show (hasOf (h ||| 2 ^ e.k.toNat) es).testBit k = _
    rw [ih, Nat.testBit_or, Nat.testBit_two_pow]
    simp only [List.any_cons, Bool.or_assoc]
    congr 2
theorem hasOf_lt (h : Nat) (es : List Ent) (hh : h < 4294967296) (hk : ∀ e ∈ es, 0 ≤ e.k ∧ e.k ≤ 31) : hasOf h es < 4294967296 := by
  induction es generalizing h with
  | nil => exact hh
  | cons e es ih =>
    refine ih _ ?_ (fun x hx => hk x (by simp [hx]))
    have := hk e (by simp)
    have h1 : 2 ^ e.k.toNat ≤ 2 ^ 31 := Nat.pow_le_pow_right (by omega) (by omega)
    have h2 : (2 : Nat) ^ 31 < 2 ^ 32 := by decide
    exact Nat.or_lt_two_pow (n := 32) (by simpa using hh) (Nat.lt_of_le_of_lt h1 h2)
theorem find_any {es : List Ent} (hk : ∀ e ∈ es, 0 ≤ e.k ∧ e.k ≤ 31) (k : Nat) : (es.any fun e => e.k.toNat == k) = (findL es (k : Int)).isSome := by
  induction es with
  | nil => rfl
  | cons e es ih =>
    have := hk e (by simp)
    rw [List.any_cons, findL, ih fun x hx => hk x (by simp [hx])]
    by_cases h : e.k = (k : Int)
    · have : e.k.toNat = k := by omega
      simp [h, this]
    · have : ¬ e.k.toNat = k := by omega
      simp [h, this]
theorem bit_and (h k : Nat) (hh : h < 4294967296) : bits .and .i64 ((h : Int) / 2 ^ k) 1 = if h.testBit k = true then 1 else 0 := by
  have e : (h : Int) / 2 ^ k = ((h / 2 ^ k : Nat) : Int) := by simp
  have hl : h / 2 ^ k ≤ h := Nat.div_le_self _ _
  rw [e, show (1 : Int) = ((1 : Nat) : Int) from rfl, i64_and_nat _ _ (by omega) (by omega)]
  have : h / 2 ^ k &&& 1 = if h.testBit k = true then 1 else 0 := by
    rw [Nat.and_one_is_mod, Nat.testBit_eq_decide_div_mod_eq]
    simp only [decide_eq_true_eq]
    split <;> omega
  rw [this]
  split <;> rfl
theorem or_bit (h q : Nat) (hh : h < 4294967296) (hq : q < 32) : bits .or .i64 (h : Int) (wrap64 (2 ^ q)) = ((h ||| 2 ^ q : Nat) : Int) := by
  have h1 : 2 ^ q ≤ 2 ^ 31 := Nat.pow_le_pow_right (by omega) (by omega)
  have h2 : (2 : Nat) ^ 31 = 2147483648 := by decide
  have e : wrap64 ((2 : Int) ^ q) = ((2 ^ q : Nat) : Int) := by
    have e1 : (2 : Int) ^ q = ((2 ^ q : Nat) : Int) := by simp
    rw [e1]
    generalize (2 : Nat) ^ q = p at *
    unfold wrap64
    omega
  rw [e, i64_or_nat _ _ (by omega) (by omega)]
end Go.Proofs.YtefdhlfljpppfaaGreat
namespace Go.Proofs.YtefdhlfljpppfaaGreat
open Go.RowKit
set_option linter.unusedVariables false
set_option linter.unusedSimpArgs false

/-- a layer -/
structure Lay where
  below : Int
  writes : List Ent
def layV (x : Lay) (A : Option Addr) (c : Nat) : List Value := [.int .i64 x.below, .slice A x.writes.length c]
def layR : Rel Lay := fun P x w cs => ∃ A c, cs = layV x A c ∧ (x.writes.length ≤ c ∧ c ≤ maxLen) ∧ RdP P w A (x.writes.flatMap encE)
theorem lay_good : Good layR 2 :=
  ⟨fun ⟨_, _, h, _⟩ => by rw [h]; rfl, fun ⟨A, c, h0, h1, h2⟩ hPQ => ⟨A, c, h0, h1, h2.mono hPQ⟩, fun ⟨A, c, h0, h1, h2⟩ hk => ⟨A, c, h0, h1, h2.keep hk⟩⟩
def layO : ORel Lay := fun x w cs fp => ∃ A c, cs = layV x A c ∧ w.ownsRow 0 85 2 (.slice A x.writes.length c) x.writes.length (x.writes.flatMap encE) ∧ fp = blk A
theorem layO_good : OGood layO layR :=
  ⟨fun ⟨A, c, h0, h1, h2⟩ => ⟨A, c, h0, own_cap h1, (own_rdP h1).mono fun k hk _ => by rw [h2]; exact mem_blk hk.2⟩,
   fun ⟨A, c, h0, h1, h2⟩ hk => ⟨A, c, h0, own_keep h1 fun g hA hg => hk g (by rw [h2]; exact mem_blk hA) hg, h2⟩,
   fun ⟨A, c, h0, h1, h2⟩ k hk => by
    rw [h2] at hk
    exact (blk_own h1 hk).2.2⟩
theorem RdD.lay {P : Nat → Prop} {w : World} {A : Option Addr} {xs : List Lay} (h : RdD layR P w A xs) {k : Nat} (hk : k < xs.length) :
    ∃ b off A1 c1, A = some ⟨b, off, none⟩ ∧ P b ∧ b < w.heap.size ∧ w.cell? ⟨b, off + k * 2, none⟩ = some (.int .i64 xs[k].below) ∧ w.cell? ⟨b, off + k * 2 + 1, none⟩ = some (.slice A1 xs[k].writes.length c1) ∧ RdP P w A1 (xs[k].writes.flatMap encE) := by
  obtain ⟨b, off, cs, hA, hp, hb, ⟨A1, c1, rfl, h1, h2⟩, hc⟩ := h.get lay_good (by omega) hk
  exact ⟨b, off, A1, c1, hA, hp, hb, hc 0 _ rfl, hc 1 _ rfl, h2⟩
/-- the entries of the keys that are bits of a number -/
def wrN (v : List Int) (h : Nat) : Nat → List Ent
  | 0 => []
  | n + 1 => wrN v h n ++ (if h.testBit n = true then [⟨(n : Int), v.getD n 0⟩] else [])
theorem wrN_len (v : List Int) (h n : Nat) : (wrN v h n).length ≤ n := by
  induction n with
  | zero => simp [wrN]
  | succ n ih =>
    rw [wrN, List.length_append]
    split <;> simp <;> omega
/-- all that effects write -/
def effsW (es : List Eff) : List Ent := es.flatMap (·.writes)
/-- the layer of a block -/
def layT (t : Tr) (k : Nat) : Lay := ⟨pAt t k, wrN (runAllV (aheadV t k) (bAt t k).list) (hasOf 0 (effsW (runAllE (aheadV t k) (bAt t k).list))) 32⟩
def laysN (t : Tr) : Nat → List Lay
  | 0 => []
  | n + 1 => laysN t n ++ [layT t n]
theorem laysN_len (t : Tr) : ∀ n, (laysN t n).length = n
  | 0 => rfl
  | n + 1 => by rw [laysN, List.length_append, laysN_len t n]; rfl
theorem runAllE_writes {v : List Int} (hv : valOk v) {al : List Act} (ha : ∀ a ∈ al, actB a = true) : ∀ x ∈ runAllE v al, ∀ e ∈ x.writes, (0 ≤ e.k ∧ e.k ≤ 31) ∧ 0 ≤ e.v ∧ e.v ≤ 1000000 := by
  induction al generalizing v with
  | nil => intro x hx; cases hx
  | cons a al ih =>
    intro x hx
    have h1 := runV_writes hv (ha a (by simp))
    rw [runAllE] at hx
    rcases List.mem_cons.1 hx with rfl | hx
    · exact h1
    · exact ih (valOk_setAll hv h1) (fun b hb => ha b (by simp [hb])) x hx
theorem info_lay : (Tryz.prog.info? 87).map (fun i => (i.zero, i.size, i.bytes)) = some (some (.agg #[.int .i64 0, .slice none 0 0]), 2, 32) := by kernel_rfl
theorem el_lay : El Tryz.prog 37 87 2 32 := El.mk_ Tryz.underlying37 info_lay rfl (by omega)
def tupL (nv : List Int) (n : Nat) (A : Option Addr) (c : Nat) : Value := .tuple #[.agg (vA nv), .slice A n c]
def slcL (n : Nat) (A : Option Addr) (c : Nat) : Value := .slice A n c
/-- a value that shows effects, apart from a variable -/
def RdA (f : Option Addr → Nat → Value) (u : Value) (es : List Eff) (v : Value) (w : World) : Prop :=
  v = undef ∨ ∃ A c P, v = f A c ∧ RdD effR P w A es ∧ (∀ k, P k → k < w.heap.size) ∧ ∀ g, u = .pointer (some ⟨g, 0, none⟩) → ¬ P g
theorem RdA.new {f : Option Addr → Nat → Value} {u : Value} {es : List Eff} {v : Value} {w w' : World} (h : RdA f u es v w) (hb : Below w.heap.size w w') : RdA f u es v w' := by
  rcases h with h | ⟨A, c, P, h1, h2, h3, h4⟩
  · exact .inl h
  · exact .inr ⟨A, c, P, h1, h2.new eff_good hb, fun k hk => Nat.lt_of_lt_of_le (h3 k hk) hb.size, h4⟩
theorem RdA.lay {f : Option Addr → Nat → Value} {u : Value} {es : List Eff} {v : Value} {w : World} (h : RdA f u es v w) : RdA f (.pointer (some ⟨w.heap.size, 0, none⟩)) es v w := by
  rcases h with h | ⟨A, c, P, h1, h2, h3, h4⟩
  · exact .inl h
  · exact .inr ⟨A, c, P, h1, h2, h3, fun g hg hp => by injection hg with hg; injection hg with hg; injection hg with hg; have := h3 g hp; omega⟩
theorem RdA.set {f : Option Addr → Nat → Value} {g : Nat} {es : List Eff} {v : Value} {w w' : World} (h : RdA f (.pointer (some ⟨g, 0, none⟩)) es v w) (hc : Chg (fun q => q = g) w w') : RdA f (.pointer (some ⟨g, 0, none⟩)) es v w' := by
  rcases h with h | ⟨A, c, P, h1, h2, h3, h4⟩
  · exact .inl h
  · exact .inr ⟨A, c, P, h1, h2.keep eff_good (Kp.chg hc fun k hk e => h4 g rfl (e ▸ hk)), fun k hk => Nat.lt_of_lt_of_le (h3 k hk) hc.size, h4⟩
def RL (m : Nat) (nv : List Int) (es : List Eff) (b : Bool) (vs : Nat → Value) (w : World) : Prop :=
  RdA (tupL nv es.length) (vs 9) es (vs 5) w ∧ RdA (tupL nv es.length) (vs 9) es (vs 6) w ∧ RdA (slcL es.length) (vs 9) es (vs 8) w ∧
  ((b = false ∧ (vs 9 = undef ∨ ∃ g, vs 9 = .pointer (some ⟨g, 0, none⟩) ∧ m ≤ g ∧ Blk w g 76 zA)) ∨ (b = true ∧ ∃ g, vs 9 = .pointer (some ⟨g, 0, none⟩) ∧ m ≤ g ∧ Blk w g 76 (vA nv)))
section
variable {m : Nat} {nv : List Int} {es : List Eff} {b : Bool} {vs : Nat → Value} {w w' : World}
theorem RL.new (h : RL m nv es b vs w) (hb : Below w.heap.size w w') : RL m nv es b vs w' := by
  obtain ⟨h1, h2, h3, h4⟩ := h
  refine ⟨h1.new hb, h2.new hb, h3.new hb, ?_⟩
  rcases h4 with ⟨h4, h5 | ⟨g, h5, h6, h7⟩⟩ | ⟨h4, g, h5, h6, h7⟩
  · exact .inl ⟨h4, .inl h5⟩
  · exact .inl ⟨h4, .inr ⟨g, h5, h6, h7.new_ hb⟩⟩
  · exact .inr ⟨h4, g, h5, h6, h7.new_ hb⟩
theorem RL.other (h : RL m nv es b vs w) (i : Nat) (v : Value) (hi : i ≠ 5 ∧ i ≠ 6 ∧ i ≠ 8 ∧ i ≠ 9) : RL m nv es b (fun j => if j = i then v else vs j) w := by
  obtain ⟨a5, a6, a8, a9⟩ := hi
  unfold RL
  simp only [show ¬ 5 = i from fun e => a5 e.symm, show ¬ 6 = i from fun e => a6 e.symm, show ¬ 8 = i from fun e => a8 e.symm, show ¬ 9 = i from fun e => a9 e.symm, if_false]
  exact h
theorem RL.call (h : RL m nv es b vs w) (hb : Below w.heap.size w w') (A : Option Addr) (c : Nat) (hr : RdD effR (fun k => w.heap.size ≤ k) w' A es) : RL m nv es b (fun j => if j = 5 then tupL nv es.length A c else vs j) w' := by
  have h' := h.new hb
  obtain ⟨h1, h2, h3, h4⟩ := h
  obtain ⟨g1, g2, g3, g4⟩ := h'
  refine ⟨?_, g2, g3, g4⟩
  refine .inr ⟨A, c, fun k => w.heap.size ≤ k ∧ k < w'.heap.size, rfl, hr.mono eff_good (fun k hk hk2 => ⟨hk, hk2⟩), fun k hk => hk.2, fun g hg hp => ?_⟩
  have hg' : vs 9 = .pointer (some ⟨g, 0, none⟩) := hg
  rcases h4 with ⟨_, h5 | ⟨g', h5, _, h7⟩⟩ | ⟨_, g', h5, _, h7⟩
  · rw [hg'] at h5; cases h5
  · rw [hg'] at h5; injection h5 with h5; injection h5 with h5; injection h5 with h5; have := h7.lt; have := hp.1; omega
  · rw [hg'] at h5; injection h5 with h5; injection h5 with h5; injection h5 with h5; have := h7.lt; have := hp.1; omega
theorem RL.move (h : RL m nv es b vs w) {v : Value} (hv : v = vs 5) : RL m nv es b (fun j => if j = 6 then v else vs j) w := ⟨h.1, by rw [hv]; exact h.1, h.2.2.1, h.2.2.2⟩
theorem RL.extr (h : RL m nv es b vs w) {A : Option Addr} {c : Nat} (hv : tupL nv es.length A c = vs 6) : RL m nv es b (fun j => if j = 8 then slcL es.length A c else vs j) w := by
  refine ⟨h.1, h.2.1, ?_, h.2.2.2⟩
  rcases h.2.1 with h2 | ⟨A', c', P, h1, h2⟩
  · rw [← hv] at h2; cases h2
  · rw [← hv] at h1
    unfold tupL at h1
    injection h1 with h1
    injection h1 with h1
    injection h1 with _ h1
    injection h1 with h1
    injection h1 with e1 _ e3
    subst e1
    subst e3
    exact .inr ⟨A, c, P, rfl, h2⟩
theorem RL.lay (h : RL m nv es false vs w) (hm : m ≤ w.heap.size) : RL m nv es false (fun j => if j = 9 then .pointer (some ⟨w.heap.size, 0, none⟩) else vs j) (w.alloc (.cells zA 76)) := by
  have hb : Below w.heap.size w (w.alloc (.cells zA 76)) := (Below.refl _ _).alloc (Nat.le_refl _) _
  exact ⟨(h.1.lay).new hb, (h.2.1.lay).new hb, (h.2.2.1.lay).new hb, .inl ⟨rfl, .inr ⟨_, rfl, hm, Blk.new _ _ _⟩⟩⟩
theorem RL.store (h : RL m nv es false vs w) {g : Nat} (hg : vs 9 = .pointer (some ⟨g, 0, none⟩)) (hm : m ≤ g) (hk : Blk w g 76 zA) (i : Nat) (v : Value) (hi : i = 10) : RL m nv es true (fun j => if j = i then v else vs j) (w.setRow g (vA nv)) := by
  subst hi
  have hc : Chg (fun q => q = g) w (w.setRow g (vA nv)) := ⟨rfl, rfl, rfl, by rw [size_setRow]; exact Nat.le_refl _, fun j _ hj => setRow_other _ g j _ hj⟩
  obtain ⟨h1, h2, h3, _⟩ := h
  rw [hg] at h1 h2 h3
  have key : RL m nv es true vs (w.setRow g (vA nv)) := by
    refine ⟨?_, ?_, ?_, .inr ⟨rfl, g, hg, hm, blk_setRow hk⟩⟩
    · rw [hg]; exact h1.set hc
    · rw [hg]; exact h2.set hc
    · rw [hg]; exact h3.set hc
  exact key.other 10 v (by omega)
end
set_option maxRecDepth 100000 in
set_option maxHeartbeats 4000000 in
theorem branchLayers_impl (t : Tr) (A1 : Option Addr) (c1 : Nat) (A2 : Option Addr) (c2 : Nat) (A3 : Option Addr) (c3 : Nat) (w : World) (h : TrR w t A1 A2 A3) (hv : treeB t = true) (hb1 : t.base.length ≤ 1099511627776) (hb2 : t.blocks.length ≤ 1099511627776) (hbs : ∀ x ∈ t.blocks, x.list.length ≤ 1099511627776) (hb3 : t.before.length ≤ 1099511627776) :
    Calls Tryz.prog 14 #[.agg (trA t A1 c1 A2 c2 A3 c3)] w fun e w' => ∃ A' c', e = .returned (.slice A' t.blocks.length c') ∧ RdD layR (fun k => w.heap.size ≤ k) w' A' (laysN t t.blocks.length) ∧ Below w.heap.size w w' := by
  have HBS := hide hbs
  clear hbs
  have HV := hide hv
  obtain ⟨W, hW⟩ : ∃ W : World, W = w.alloc (.cells (trA t A1 c1 A2 c2 A3 c3) 27) := ⟨_, rfl⟩
  have hb0 : Below w.heap.size w W := by rw [hW]; exact (Below.refl _ _).alloc (Nat.le_refl _) _
  have K0 : Blk W w.heap.size 27 (trA t A1 c1 A2 c2 A3 c3) := by rw [hW]; exact Blk.new _ _ _
  have HR := hide (fun w' (hb : Below W.heap.size W w') => h.new (bthen hb0 hb))
  have hWs : w.heap.size < W.heap.size := K0.lt
  have BX := hide (fun w' (hb : Below W.heap.size W w') => show w'.cell? ⟨w.heap.size, 0, none⟩ = some (.slice A1 t.base.length c1) ∧ w'.cell? ⟨w.heap.size, 1, none⟩ = some (.slice A2 t.blocks.length c2) ∧ w'.cell? ⟨w.heap.size, 2, none⟩ = some (.slice A3 t.before.length c3) from ⟨(K0.new_ hb).cell 0, (K0.new_ hb).cell 1, (K0.new_ hb).cell 2⟩)
  have KV := treeValid_impl t A1 c1 A2 c2 A3 c3 W (unhide HR _ (Below.refl _ _)) hb1 hb2 (unhide HBS) hb3
  rw [hv] at KV
  have HA := hide (fun w' (hb : Below W.heap.size W w') (k : Nat) (hk : k < t.blocks.length) => ahead_impl t A1 c1 A2 c2 A3 c3 k w' (unhide HR w' hb) (unhide HV) hk)
  have HBL := hide (treeB_yes hv).2.2.2.1
  have hb14 : t.blocks.length ≤ 14 := (treeB_yes hv).2.2.1
  obtain ⟨x0, x1, x2⟩ := unhide BX W (Below.refl _ _)
  simp only [trA] at K0 hW KV HA ⊢
  clear h K0 hv
  go_enter Tryz.func14, Tryz.ntmps14
  go_wp2_with fail
  rw [← hW]
  clear hW
  refine KV.mono ?_
  rintro e w3 ⟨rfl, b3⟩
  clear KV x0 x1 x2
  obtain ⟨z0, z1, z2⟩ := unhide BX w3 b3
  go_wp2
  go_loopw [3, 22] (fun r i wr => ∃ (k : Nat) (A' : Option Addr) (c' : Nat) (vs : List (List Value)) (fs : List (List Nat)), k ≤ t.blocks.length ∧ i = .int .i64 k ∧ r = .slice A' k c' ∧ AllO layO wr (laysN t k) vs fs ∧ fs.flatten.Nodup ∧ (∀ q ∈ fs.flatten, W.heap.size ≤ q ∧ A' ≠ some ⟨q, 0, none⟩) ∧ wr.ownsRow W.heap.size 87 2 (.slice A' k c') k vs.flatten ∧ Below W.heap.size W wr) (fun _ i _ => t.blocks.length - (intOf i).toNat)
  case atStart => exact ⟨0, none, 0, [], [], Nat.zero_le _, rfl, rfl, trivial, List.nodup_nil, (by simp), own_nil _ _ _ _, b3⟩
  case round =>
    clear b3 z0 z1 z2
    obtain ⟨k, A', c', vs, fs, hk, rfl, rfl, hall, hnd, hFF, hown, hB⟩ := hrel
    obtain ⟨wk, rfl⟩ : ∃ wo, wo = wr := ⟨_, rfl⟩
    have HOWN := hide hown
    have HALL := hide hall
    have HND := hide hnd
    have HFF := hide hFF
    clear hall hnd hFF
    by_cases hlt : k < t.blocks.length
    · have i1 : (k : Int) < (t.blocks.length : Int) := by omega
      have hbw := bthen hb0 hB
      obtain ⟨y0, y1, y2⟩ := unhide BX wk hB
      obtain ⟨bq, offq, L1, e1, hA2, -, hbb, d0, d1, d2, d3, d4, d5, -, q1⟩ := (unhide HR wk hB).b2.bk hlt
      have hll := unhide HBS t.blocks[k] (List.getElem_mem hlt)
      have HT := hide (show laysN t (k + 1) = laysN t k ++ [⟨pAt t k, wrN (runAllV (aheadV t k) t.blocks[k].list) (hasOf 0 (effsW (runAllE (aheadV t k) t.blocks[k].list))) 32⟩] by rw [laysN, layT, bAt_get t hlt])
      have HAK := hide (fun w' hb => unhide HA w' hb k hlt)
      have hacts := blk_acts (unhide HV) hlt
      rw [bAt_get t hlt] at hacts
      have hl10 := (actsB_yes hacts).1
      have HVO := hide (valOk_ahead (unhide HV) k)
      have HAC := hide (acts_all hacts)
      have HWR := hide (runAllE_writes (unhide HVO) (unhide HAC))
      have HES := hide (runAllE_small (aheadV t k) t.blocks[k].list)
      have hel := runAllE_len (aheadV t k) t.blocks[k].list
      have HEL := hide hel
      have hel2 : (runAllE (aheadV t k) t.blocks[k].list).length ≤ 10 := by omega
      have hnl := (valOk_runAll (unhide HVO) (unhide HAC)).1
      have hk3 : k < t.before.length := by have := unhide HBL; omega
      obtain ⟨b3, off3, hA3, hb3b, u0⟩ := (unhide HR wk hB).b3.int hk3
      rw [← pAt_get t hk3] at u0
      have q1r : Rd wk L1 (t.blocks[k].list.flatMap encA) := q1.rd
      have HRA := hide (fun (w' : World) (hr : Rd w' L1 (t.blocks[k].list.flatMap encA)) => runAll_any (aheadV t k) L1 e1 t.blocks[k].list w' (unhide HVO) hr (unhide HAC) (by omega))
      clear hacts hel
      generalize runAllE (aheadV t k) t.blocks[k].list = es at *
      generalize runAllV (aheadV t k) t.blocks[k].list = nv at *
      generalize t.blocks[k] = x at *
      generalize aheadV t k = av at *
      generalize pAt t k = pk at *
      have HA2 := hide hA2
      have HA3 := hide hA3
      have hown2 := own_alloc hown (.cells #[.int .i64 x.before, .int .i64 x.height, .int .i64 x.view, .slice L1 x.list.length e1, .int .i64 x.root, .int .i64 x.eff] 50)
      have hsw := hB.size
      have kx := Blk.new wk 50 #[.int .i64 x.before, .int .i64 x.height, .int .i64 x.view, .slice L1 x.list.length e1, .int .i64 x.root, .int .i64 x.eff]
      obtain ⟨V, hV⟩ : ∃ V : World, V = wk.alloc (.cells #[.int .i64 x.before, .int .i64 x.height, .int .i64 x.view, .slice L1 x.list.length e1, .int .i64 x.root, .int .i64 x.eff] 50) := ⟨_, rfl⟩
      have bx1 : Below wk.heap.size wk V := by rw [hV]; exact (Below.refl _ _).alloc (Nat.le_refl _) _
      rw [← hV] at kx hown2
      have hsV : wk.heap.size < V.heap.size := kx.lt
      have HX := hide (fun (w' : World) (b : Below V.heap.size V w') => show w'.cell? ⟨wk.heap.size, 3, none⟩ = some (.slice L1 x.list.length e1) ∧ (w'.cell? ⟨w.heap.size, 0, none⟩ = some (.slice A1 t.base.length c1) ∧ w'.cell? ⟨w.heap.size, 1, none⟩ = some (.slice A2 t.blocks.length c2) ∧ w'.cell? ⟨w.heap.size, 2, none⟩ = some (.slice A3 t.before.length c3)) ∧ w'.cell? ⟨b3, off3 + k, none⟩ = some (.int .i64 pk) ∧ Rd w' L1 (x.list.flatMap encA) ∧ w'.ownsRow W.heap.size 87 2 (.slice A' k c') k vs.flatten ∧ Below W.heap.size W w' ∧ Below wk.heap.size wk w' from by
        have b1 := bthen bx1 b
        exact ⟨(kx.new_ b).cell 3, unhide BX w' (bthen hB b1), (b1.cell (p := ⟨b3, off3 + k, none⟩) hb3b).trans u0, q1r.new b1, own_new hown2 b, bthen hB b1, b1⟩)
      rw [unhide HA2]
      clear hown hown2 hA2 hA3 u0 q1 q1r kx bx1 hbw
      go_upto_region 7 with fail
      rw [← hV]
      clear hV
      -- deps of 10: [7, 9]
      have hF : StEL (EB V.heap.size 76) [bV (.agg #[.slice A1 t.base.length c1, .slice A2 t.blocks.length c2, .slice A3 t.before.length c3]), bV (.int .i64 (k : Int)), bV (.agg (vA av)), bV (.pointer (some ⟨wk.heap.size, 3, none⟩)), bV (.slice L1 x.list.length e1), pV (fun v => ∃ A c, v = tupL nv es.length A c), pV (fun v => ∃ A c, v = tupL nv es.length A c), bV (.agg (vA nv)), pV (fun v => ∃ A c, v = slcL es.length A c), pV (fun v => v ≠ undef), pV (fun _ => True)] :=
        ⟨fun _ _ _ _ h => h, fun _ _ _ _ h => h, fun _ _ _ _ h => h, fun _ _ _ _ h => h, fun _ _ _ _ h => h, fun _ _ _ _ h => h, fun _ _ _ _ h => h, fun _ _ _ _ h => h, fun _ _ _ _ h => h, fun _ _ _ _ h => h, fun _ _ _ _ h => h, trivial⟩
      refine wp_region_vals (by kernel_rfl) [(0, some 28), (1, some 29), (2, some 30), (3, some 31), (4, some 32), (5, some 33), (6, some 27), (7, some 34), (8, some 35), (9, some 6), (10, none)] [[], [], [(0, some 28), (1, some 29)], [], [(3, some 31)], [(2, some 30), (4, some 32)], [(5, some 33)], [(6, some 27)], [(6, some 27)], [], [(7, some 34), (9, some 6)]] (by kernel_rfl) 10 [0, 1, 2, 3, 4, 5, 6, 7, 9] (by kernel_rfl)
        (locB [bV (.agg #[.slice A1 t.base.length c1, .slice A2 t.blocks.length c2, .slice A3 t.before.length c3]), bV (.int .i64 (k : Int)), bV (.agg (vA av)), bV (.pointer (some ⟨wk.heap.size, 3, none⟩)), bV (.slice L1 x.list.length e1), pV (fun v => ∃ A c, v = tupL nv es.length A c), pV (fun v => ∃ A c, v = tupL nv es.length A c), bV (.agg (vA nv)), pV (fun v => ∃ A c, v = slcL es.length A c), pV (fun v => v ≠ undef), pV (fun _ => True)]) (EB V.heap.size 76) (RL V.heap.size nv es) (EB.refl _ _) (fun _ _ _ => EB.trans) (locE_st hF _) ⟨.inl rfl, .inl rfl, .inl rfl, .inl ⟨rfl, .inl rfl⟩⟩ ?_ ?_
      · refine steps_cons ?s0 ( steps_cons ?s1 ( steps_cons ?s2 ( steps_cons ?s3 ( steps_cons ?s4 ( steps_cons ?s5 ( steps_cons ?s6 ( steps_cons ?s7 ( steps_cons ?s8 ( steps_cons ?s9 ( steps_cons ?s10 steps_nil))))))))))
        case s0 =>
          intro w' b vs hE hbx hR
          obtain rfl := hbx (by simp)
          intro Q hQ
          have bE : Below V.heap.size V w' := hE.undrew.below (Nat.le_refl _)
          obtain ⟨s0, ⟨s1, s2, s3⟩, s4, s5, s6, s7, s8⟩ := unhide HX w' bE
          go_wp2
          exact hQ _ _ _ rfl rfl (EB.refl _ _ _) (hR.other 0 _ (by omega))
        case s1 =>
          intro w' b vs hE hbx hR
          obtain rfl := hbx (by simp)
          intro Q hQ
          go_wp2
          exact hQ _ _ _ rfl rfl (EB.refl _ _ _) (hR.other 1 _ (by omega))
        case s2 =>
          intro w' b vs hE hbx hR
          obtain rfl := hbx (by simp)
          rintro _ ⟨rfl, -⟩ _ ⟨rfl, -⟩ Q hQ
          have bE : Below V.heap.size V w' := hE.undrew.below (Nat.le_refl _)
          obtain ⟨s0, ⟨s1, s2, s3⟩, s4, s5, s6, s7, s8⟩ := unhide HX w' bE
          go_wp2_with fail
          refine (unhide HAK w' s7).mono ?_
          rintro e w5 ⟨rfl, b5⟩
          go_wp2
          exact hQ _ _ _ rfl rfl (EB.of_new b5) ((hR.new b5).other 2 _ (by omega))
        case s3 =>
          intro w' b vs hE hbx hR
          obtain rfl := hbx (by simp)
          intro Q hQ
          go_wp2
          exact hQ _ _ _ rfl rfl (EB.refl _ _ _) (hR.other 3 _ (by omega))
        case s4 =>
          intro w' b vs hE hbx hR
          obtain rfl := hbx (by simp)
          rintro _ ⟨rfl, -⟩ Q hQ
          have bE : Below V.heap.size V w' := hE.undrew.below (Nat.le_refl _)
          obtain ⟨s0, ⟨s1, s2, s3⟩, s4, s5, s6, s7, s8⟩ := unhide HX w' bE
          go_wp2
          exact hQ _ _ _ rfl rfl (EB.refl _ _ _) (hR.other 4 _ (by omega))
        case s5 =>
          intro w' b vs hE hbx hR
          obtain rfl := hbx (by simp)
          rintro _ ⟨rfl, -⟩ _ ⟨rfl, -⟩ Q hQ
          have bE : Below V.heap.size V w' := hE.undrew.below (Nat.le_refl _)
          obtain ⟨s0, ⟨s1, s2, s3⟩, s4, s5, s6, s7, s8⟩ := unhide HX w' bE
          go_wp2_with fail
          refine (unhide HRA w' s5).mono ?_
          rintro e w5 ⟨A9, c9, rfl, -, r9, b5⟩
          go_wp2
          exact hQ _ _ _ rfl ⟨A9, c9, rfl⟩ (EB.of_new b5) (hR.call b5 A9 c9 r9)
        case s6 =>
          intro w' b vs hE hbx hR
          obtain rfl := hbx (by simp)
          rintro _ ⟨⟨A9, c9, rfl⟩, hv5⟩ Q hQ
          have HV5 := hide hv5
          clear hv5
          go_wp2
          exact hQ _ _ _ rfl ⟨A9, c9, rfl⟩ (EB.refl _ _ _) (hR.move (unhide HV5))
        case s7 =>
          intro w' b vs hE hbx hR
          obtain rfl := hbx (by simp)
          rintro _ ⟨⟨A9, c9, rfl⟩, -⟩ Q hQ
          unfold tupL
          go_wp2
          exact hQ _ _ _ rfl rfl (EB.refl _ _ _) (hR.other 7 _ (by omega))
        case s8 =>
          intro w' b vs hE hbx hR
          clear hbx
          rintro _ ⟨⟨A9, c9, rfl⟩, hv6⟩ Q hQ
          have hR8 := hR.extr hv6
          unfold tupL
          clear hv6
          go_wp2
          exact hQ _ _ _ rfl ⟨A9, c9, rfl⟩ (EB.refl _ _ _) hR8
        case s9 =>
          intro w' b vs hE hbx hR
          obtain rfl := hbx (by simp)
          intro Q hQ
          have hsz := hE.size
          have hR9 := hR.lay (show V.heap.size ≤ w'.heap.size from hsz)
          go_wp2
          exact hQ _ _ _ rfl (fun h => by cases h) (EB.of_new ((Below.refl _ _).alloc (Nat.le_refl _) _)) hR9
        case s10 =>
          intro w' b vs hE hbx hR
          obtain rfl := hbx (by simp)
          rintro _ ⟨rfl, -⟩ _ ⟨hnu, hv9⟩ Q hQ
          rcases hR.2.2.2 with ⟨-, h | ⟨g, hg9, hg, hk9⟩⟩ | ⟨h, _⟩
          · exact absurd (hv9.trans h) hnu
          · obtain rfl := hv9.trans hg9
            have hR10 := hR.store hg9 hg hk9 10 undef rfl
            refine wpList_store_row rfl 76 (.tmp 6) (.tmp 34) rfl g (vA nv) rfl rfl 76 zA hk9 (by rw [vA_size, hnl]; exact info_vals) (by rw [vA_size, hnl]; rfl) (vA_one _) ?_
            go_wp2
            exact hQ undef _ _ rfl trivial (EB.setRow hk9 hg _) hR10
          · cases h
      intro w9 us hE hR
      rintro v0 - v1 - v2 - v3 - v4 - v5 - v6 - v7 - v8 ⟨⟨A9, c9, rfl⟩, hv8⟩ v9 ⟨-, hv9⟩ v10 -
      obtain ⟨-, -, h8, h9⟩ := hR
      rcases h9 with ⟨h, _⟩ | ⟨-, g, hg9, hg, kg⟩
      · cases h
      obtain rfl := hv9.trans hg9
      obtain ⟨P9, rE⟩ : ∃ P, RdD effR P w9 A9 es := by
        rcases h8 with h8 | ⟨A, c, P, h1, h2, -⟩
        · rw [← hv8] at h8; cases h8
        · rw [← hv8] at h1
          unfold slcL at h1
          injection h1 with e1 _ e3
          subst e1
          exact ⟨P, h2⟩
      have b9 : Below V.heap.size V w9 := hE.undrew.below (Nat.le_refl _)
      clear hE hF h8 hv8 hg9 hv9
      change wpList _ _ _ [_] _ _
      simp only [Act.put, List.setIfInBounds_toArray, List.set_cons_succ, List.set_cons_zero]
      unfold slcL
      obtain ⟨s0, ⟨s1, s2, s3⟩, s4, -, o9, bW9, bwr9⟩ := unhide HX w9 b9
      clear s0 s1 s2 s3 s4 hg
      have HKE := hide (fun (e : Ent) (he : e ∈ effsW es) => (show 0 ≤ e.k ∧ e.k ≤ 31 from by
        obtain ⟨y, hy, he⟩ := List.mem_flatMap.1 he
        exact (unhide HWR y hy e he).1))
      go_wp2
      go_loopw [8, 38] (fun h i wi => ∃ (j : Nat), j ≤ es.length ∧ i = .int .i64 j ∧ h = .int .i64 (hasOf 0 (effsW (es.take j)) : Nat) ∧ Below w9.heap.size w9 wi) (fun _ i _ => es.length - (intOf i).toNat)
      case atStart => exact ⟨0, Nat.zero_le _, rfl, rfl, Below.refl _ _⟩
      case round =>
        obtain ⟨j, hj, rfl, rfl, bj⟩ := hrel
        by_cases hjt : j < es.length
        · have j1 : (j : Int) < (es.length : Int) := by omega
          obtain ⟨be, oe, B1, f1, B2, f2, hAe, -, hbe, p0, p1, p2, -, -, r1, r2⟩ := (rE.new eff_good bj).eff hjt
          have hsm := unhide HES es[j] (List.getElem_mem hjt)
          have HTJ := hide (show effsW (es.take (j + 1)) = effsW (es.take j) ++ es[j].writes by rw [List.take_succ_eq_append_getElem hjt]; unfold effsW; rw [List.flatMap_append, List.flatMap_cons, List.flatMap_nil, List.append_nil])
          have hin : ∀ e ∈ effsW (es.take j), e ∈ effsW es := fun e he => by
            obtain ⟨y, hy, he⟩ := List.mem_flatMap.1 he
            exact List.mem_flatMap.2 ⟨y, List.mem_of_mem_take hy, he⟩
          have hh0 : hasOf 0 (effsW (es.take j)) < 4294967296 := hasOf_lt _ _ (by omega) fun e he => unhide HKE e (hin e he)
          have HKW := hide (fun (e : Ent) (he : e ∈ es[j].writes) => unhide HKE e (List.mem_flatMap.2 ⟨es[j], List.getElem_mem hjt, he⟩))
          clear hin
          generalize effsW (es.take j) = ew at *
          generalize es[j] = y at *
          have HAE := hide hAe
          have hsj := bj.size
          have r2r : Rd wr B2 (y.writes.flatMap encE) := r2.rd
          obtain ⟨wo, hwo⟩ : ∃ wo : World, wo = wr.alloc (.cells #[.bool y.done, .slice B1 y.reads.length f1, .slice B2 y.writes.length f2] 83) := ⟨_, rfl⟩
          have bo : Below w9.heap.size w9 wo := by rw [hwo]; exact bj.alloc hsj _
          have ro : Rd wo B2 (y.writes.flatMap encE) := by rw [hwo]; exact r2r.new ((Below.refl _ _).alloc (Nat.le_refl _) _)
          clear hAe r1 r2 r2r
          rw [unhide HAE]
          go_wp2
          rw [← hwo]
          clear hwo
          go_loopw [8, 45] (fun h i wi => ∃ (m : Nat), m ≤ y.writes.length ∧ i = .int .i64 m ∧ h = .int .i64 (hasOf 0 (ew ++ y.writes.take m) : Nat) ∧ Below w9.heap.size w9 wi ∧ Below wo.heap.size wo wi) (fun _ i _ => y.writes.length - (intOf i).toNat)
          case atStart => exact ⟨0, Nat.zero_le _, rfl, by simp, bo, Below.refl _ _⟩
          case round =>
            obtain ⟨m, hm, rfl, rfl, bm, bom⟩ := hrel
            by_cases hmt : m < y.writes.length
            · have m1 : (m : Int) < (y.writes.length : Int) := by omega
              obtain ⟨bz, oz, hBe, hbz, q0, q1⟩ := (ro.new bom).ent hmt
              have hkz := unhide HKW _ (List.getElem_mem hmt)
              have HH := hide (show hasOf 0 (ew ++ y.writes.take (m + 1)) = hasOf 0 (ew ++ y.writes.take m) ||| 2 ^ y.writes[m].k.toNat by rw [List.take_succ_eq_append_getElem hmt, ← List.append_assoc, hasOf_snoc])
              have hh1 : hasOf 0 (ew ++ y.writes.take m) < 4294967296 := by rw [hasOf_append]; exact hasOf_lt _ _ hh0 (fun e he => unhide HKW e (List.mem_of_mem_take he))
              generalize hasOf 0 (ew ++ y.writes.take m) = hh at *
              generalize y.writes[m] = z at *
              obtain ⟨key, val⟩ := z
              simp only at q0 q1 hkz HH
              obtain ⟨q, rfl⟩ := Int.eq_ofNat_of_zero_le hkz.1
              have i3 : q < 32 := by omega
              have hhl : (hh : Int) < 4294967296 := by omega
              have HBE := hide hBe
              have hsm2 := bm.size
              have hsm3 := bom.size
              clear hBe
              rw [unhide HBE]
              go_wp2
              go_roundw
              case rel =>
                refine ⟨m + 1, by omega, by go_num, ?_, bm.alloc hsm2 _, bom.alloc hsm3 _⟩
                rw [unhide HH, or_bit hh q hh1 i3]
                rfl
              case measure => simp [intOf]; omega
            · obtain rfl : m = y.writes.length := by omega
              rw [List.take_length]
              go_wp2
              go_roundw
              case rel => exact ⟨j + 1, by omega, by go_num, by rw [unhide HTJ], bm⟩
              case measure => simp [intOf]; omega
        · obtain rfl : j = es.length := by omega
          rw [List.take_length]
          have hh0 : hasOf 0 (effsW es) < 4294967296 := hasOf_lt _ _ (by omega) (unhide HKE)
          have bVr := bthen b9 bj
          obtain ⟨-, ⟨s1, s2, s3⟩, s4, -, oo, bWr, bwrr⟩ := unhide HX wr (bthen b9 bj)
          have kg2 := kg.new_ bj
          rw [unhide HA3] at s3
          generalize hasOf 0 (effsW es) = hh at *
          have hhl : (hh : Int) < 4294967296 := by omega
          have hls : (vA nv).size = 32 := by rw [vA_size, hnl]
          have hk3i : (k : Int) < (t.before.length : Int) := by omega
          have HWR2 := hide bwrr
          have HOO := hide oo
          clear oo
          obtain ⟨wq, rfl⟩ : ∃ wo, wo = wr := ⟨_, rfl⟩
          obtain ⟨wL, hwL⟩ : ∃ wL : World, wL = wq.alloc (.cells #[.int .i64 pk, .slice none 0 0] 87) := ⟨_, rfl⟩
          have kL : Blk wL wq.heap.size 87 #[.int .i64 pk, .slice none 0 0] := by rw [hwL]; exact Blk.new _ _ _
          have kg3 : Blk wL g 76 (vA nv) := by rw [hwL]; exact kg2.alloc _
          have bqL : Below wq.heap.size wq wL := by rw [hwL]; exact (Below.refl _ _).alloc (Nat.le_refl _) _
          have hLq : wq.heap.size < wL.heap.size := kL.lt
          go_wp2_with (rw [← hwL]; refine wpList_load_row rfl 76 (.tmp 6) rfl g rfl 76 (vA nv) (0, 0) _ kg3 Tryz.underlying76 rfl (by rw [hls]; exact info_vals) ?_; clear hwL)
          go_loopw [63] (fun i wi => ∃ (m : Nat) (A5 : Option Addr) (c5 : Nat), m ≤ 32 ∧ i = .int .i64 m ∧ Blk wi wq.heap.size 87 #[.int .i64 pk, .slice A5 (wrN nv hh m).length c5] ∧ wi.ownsRow wL.heap.size 85 2 (.slice A5 (wrN nv hh m).length c5) (wrN nv hh m).length ((wrN nv hh m).flatMap encE) ∧ Chg (fun q => q = wq.heap.size) wL wi) (fun i _ => 32 - (intOf i).toNat)
          case atStart => exact ⟨0, none, 0, by omega, rfl, kL, own_nil _ _ _ _, Chg.refl _ _⟩
          case round =>
            clear kL
            obtain ⟨m, A5, c5, hm, rfl, kL, o5, ch⟩ := hrel
            have hwn := wrN_len nv hh m
            have hsc := ch.size
            by_cases hmt : m < 32
            · have hix := index_vals nv hnl m hmt
              have i1 : (m : Int) < 32 := by omega
              have hba := bit_and hh m hh0
              have hst : wrN nv hh (m + 1) = wrN nv hh m ++ (if hh.testBit m = true then [⟨(m : Int), nv.getD m 0⟩] else []) := rfl
              generalize nv.getD m 0 = x9 at *
              generalize wrN nv hh m = gs at *
              cases hbt : hh.testBit m
              · rw [hbt] at hst hba
                simp only [Bool.false_eq_true, if_false, List.append_nil] at hba hst
                have HS := hide hst
                clear hst hbt
                go_wp2
                go_roundw
                case rel => exact ⟨m + 1, A5, c5, by omega, by go_num, by rw [unhide HS]; exact kL, by rw [unhide HS]; exact o5, ch⟩
                case measure => simp [intOf]; omega
              · rw [hbt] at hst hba
                simp only [if_true] at hba hst
                have HS := hide hst
                clear hst hbt
                have hrg := own_rng o5
                have l1 : wr.cell? ⟨wq.heap.size, 1, none⟩ = some (.slice A5 gs.length c5) := kL.cell 1
                go_wp2_with (at_builtin; refine wpList_app rfl (.tmp 73) (.tmp 77) 23 rfl el_ent rfl (own_alloc o5 _) rfl (rd_lit wr [.int .i64 (m : Int), .int .i64 x9] _) rfl (one_ents [⟨(m : Int), x9⟩]) (by simp only [maxLen]; omega) (by omega) (by simp; omega) ?_; intro A8 c8 w8 o8 ch8 d8 _; rw [snoc_ents] at o8; have k8 := (kL.alloc (.cells #[.int .i64 (m : Int), .int .i64 x9] 85)).chg ch8 (fun e => by have := hrg _ e; omega); have y1 : w8.cell? ⟨wq.heap.size, 1, none⟩ = some (.slice A5 gs.length c5) := k8.cell 1; have y2 : w8.frozen? ⟨wq.heap.size, 1, none⟩ = false := k8.frozen 1)
                have hr8 := own_rng o8
                have hc8 := chg_app (ch.alloc (.cells #[.int .i64 (m : Int), .int .i64 x9] 85)) ch8 (fun q hq => .inr (hrg q hq).1)
                go_roundw
                case rel => exact ⟨m + 1, A8, c8, by omega, by go_num, by rw [unhide HS]; simpa using k8.set_ 1 (.slice A8 (gs.length + 1) c8), by rw [unhide HS]; simpa using own_far o8 (p := ⟨wq.heap.size, 1, none⟩) (fun q hq => by have := hr8 q hq; show wq.heap.size ≠ q; omega) (.slice A8 (gs.length + 1) c8), hc8.setCell (p := ⟨wq.heap.size, 1, none⟩) (.inl rfl) _⟩
                case measure => simp [intOf]; omega
            · obtain rfl : m = 32 := by omega
              have hrg5 := own_rng o5
              have oo := unhide HOO
              have hrgo := own_rng oo
              have oq := own_chg (own_new oo bqL) ch (fun q hq e => by have := hrgo q hq; omega)
              have l0 : wr.cell? ⟨wq.heap.size, 0, none⟩ = some (.int .i64 pk) := kL.cell 0
              have l1 : wr.cell? ⟨wq.heap.size, 1, none⟩ = some (.slice A5 (wrN nv hh 32).length c5) := kL.cell 1
              have bqr : Below wq.heap.size wq wr := bqL.trans (ch.below (fun q hq e => by omega) (by omega))
              have bkr := bthen (unhide HWR2) bqr
              have hTT := unhide HT
              have hskr := bkr.size
              have hsqk := (unhide HWR2).size
              have hvln : vs.flatten.length = k * 2 := (unhide HOWN).1
              have hx : layO ⟨pk, wrN nv hh 32⟩ wr (layV ⟨pk, wrN nv hh 32⟩ A5 c5) (blk A5) := ⟨A5, c5, rfl, own_base0 o5, rfl⟩
              have hfb : ∀ q ∈ blk A5, wk.heap.size ≤ q := fun q hq => by have := (blk_own o5 hq).2.1; omega
              have HT2 := hide hTT
              have HXX := hide hx
              have HFB := hide hfb
              have HBKR := hide bkr
              have HBW := hide (bthen bWr bqr)
              clear hTT hx hfb
              generalize wrN nv hh 32 = gs at *
              go_wp2_with (at_builtin; refine wpList_app rfl (.tmp 81) (.tmp 83) 37 rfl el_lay rfl (own_alloc oq _) rfl (rd_lit wr [.int .i64 pk, .slice A5 gs.length c5] _) rfl (by simp [Value.oneCell']) (by simp only [maxLen]; omega) (by omega) (by simp; omega) ?_; intro A7 c7 w7 o7 ch7 d7 _)
              have hBB := (unhide HBW).alloc (unhide HBW).size (.cells #[.int .i64 pk, .slice A5 gs.length c5] 87)
              have hB7 : Below W.heap.size W w7 := hBB.trans (ch7.below (fun q hq e => by have := hrgo q e; omega) hBB.size)
              obtain ⟨g1, g2, g3, g4⟩ := grow_step layO_good lay_good (unhide HALL) (unhide HND) (unhide HFF) (unhide HOWN) hsw (unhide HBKR) (unhide HXX) (blk_nodup _) (unhide HFB) ch7 d7 o7
              go_roundw
              case rel => exact ⟨k + 1, A7, c7, vs ++ [layV ⟨pk, gs⟩ A5 c5], fs ++ [blk A5], by omega, by go_num, rfl, by rw [unhide HT2]; exact g1, g2, g3, g4, hB7⟩
              case measure => simp [intOf]; omega
    · obtain rfl : k = t.blocks.length := by omega
      go_wp2
      go_ret
      obtain ⟨hd, hge⟩ := grow_done (unhide HALL) (unhide HND) (unhide HFF) (by rw [laysN_len]; exact hown)
      exact ⟨A', c', rfl, hd.rd layO_good lay_good fun q hq => by have := hge q hq; omega, bthen hb0 hB⟩
end Go.Proofs.YtefdhlfljpppfaaGreat
namespace Go.Proofs.YtefdhlfljpppfaaGreat
open Go.RowKit
set_option linter.unusedVariables false
set_option linter.unusedSimpArgs false

theorem evOk_snoc {l z : Int} {es : List Ent} {e : Ent} (h : evOk l z es = true) (hz : z < e.k) (hlt : ∀ x ∈ es, x.k < e.k) (h2 : e.k ≤ 31) (h3 : l ≤ e.v) (h4 : e.v ≤ 1000000) : evOk l z (es ++ [e]) = true := by
  induction es generalizing z with
  | nil => exact evOk_mk hz h2 h3 h4 rfl
  | cons x es ih =>
    obtain ⟨a1, a2, a3, a4, a5⟩ := evOk_cons h
    exact evOk_mk a1 a2 a3 a4 (ih a5 (hlt x (by simp)) fun y hy => hlt y (by simp [hy]))
theorem wrN_low (v : List Int) (h : Nat) : ∀ n, ∀ x ∈ wrN v h n, x.k < (n : Int)
  | 0, x, hx => by cases hx
  | n + 1, x, hx => by
    rw [wrN] at hx
    rcases List.mem_append.1 hx with hx | hx
    · have := wrN_low v h n x hx
      omega
    · split at hx
      · have : x = ⟨(n : Int), v.getD n 0⟩ := by simpa using hx
        subst this
        simp; omega
      · cases hx
theorem wrN_ok {v : List Int} (hv : valOk v) (h : Nat) : ∀ n, n ≤ 32 → evOk 0 (-1) (wrN v h n) = true
  | 0, _ => rfl
  | n + 1, hn => by
    have ih := wrN_ok hv h n (by omega)
    have hvn := hv.2 n
    rw [wrN]
    split
    · exact evOk_snoc ih (by simp; omega) (fun x hx => wrN_low v h n x hx) (by simp; omega) hvn.1 hvn.2
    · simpa using ih
theorem findL_app (a b : List Ent) (k : Int) : findL (a ++ b) k = (findL a k).or (findL b k) := by
  induction a with
  | nil => simp [findL]
  | cons x a ih =>
    rw [List.cons_append, findL, findL]
    split
    · simp
    · exact ih
theorem findL_none {es : List Ent} {k : Int} (h : ∀ x ∈ es, x.k ≠ k) : findL es k = none := by
  induction es with
  | nil => rfl
  | cons x es ih =>
    rw [findL, if_neg (h x (by simp)), ih fun y hy => h y (by simp [hy])]
theorem wrN_find (v : List Int) (h : Nat) : ∀ n k : Nat, k < n → findL (wrN v h n) (k : Int) = if h.testBit k = true then some (v.getD k 0) else none
  | 0, k, hk => by omega
  | n + 1, k, hk => by
    rw [wrN, findL_app]
    by_cases hkn : k < n
    · rw [wrN_find v h n k hkn]
      have : findL (if h.testBit n = true then [(⟨(n : Int), v.getD n 0⟩ : Ent)] else []) (k : Int) = none := by
        refine findL_none fun x hx => ?_
        split at hx
        · have : x = ⟨(n : Int), v.getD n 0⟩ := by simpa using hx
          subst this
          simp; omega
        · cases hx
      rw [this]
      split <;> rfl
    · obtain rfl : k = n := by omega
      rw [findL_none fun x hx => by have := wrN_low v h k x hx; omega]
      split
      · simp [findL]
      · rfl
theorem setAll_skip (v : List Int) (es : List Ent) (k : Nat) (h : ∀ x ∈ es, x.k.toNat ≠ k) : (setAll v es).getD k 0 = v.getD k 0 := by
  induction es generalizing v with
  | nil => rfl
  | cons x es ih =>
    have h1 : setAll v (x :: es) = setAll (setV v x) es := rfl
    rw [h1, ih _ fun y hy => h y (by simp [hy])]
    unfold setV
    have := h x (by simp)
    rw [List.getD_eq_getElem?_getD, List.getElem?_set_ne this, ← List.getD_eq_getElem?_getD]
theorem runAll_skip (al : List Act) (k : Nat) : ∀ (v : List Int), (∀ x ∈ effsW (runAllE v al), x.k.toNat ≠ k) → (runAllV v al).getD k 0 = v.getD k 0 := by
  induction al with
  | nil => intro v _; rfl
  | cons a al ih =>
    intro v h
    have h0 : effsW (runAllE v (a :: al)) = (runV v a).writes ++ effsW (runAllE (setAll v (runV v a).writes) al) := by simp [effsW, runAllE]
    rw [h0] at h
    have h1 : runAllV v (a :: al) = runAllV (setAll v (runV v a).writes) al := rfl
    rw [h1, ih _ fun x hx => h x (by simp [hx]), setAll_skip _ _ _ fun x hx => h x (by simp [hx])]
/-- the layer of a run, over what was there, is what is there behind the run -/
theorem set_layer {v : List Int} (hv : valOk v) {al : List Act} (ha : ∀ a ∈ al, actB a = true) : setAll v (wrN (runAllV v al) (hasOf 0 (effsW (runAllE v al))) 32) = runAllV v al := by
  have hn := valOk_runAll hv ha
  have hok := wrN_ok hn (hasOf 0 (effsW (runAllE v al))) 32 (by omega)
  refine vals_ext (valOk_all hv hok (by omega) (by omega)) hn fun k hk => ?_
  rw [setAll_get hok (by omega) v k (by rw [hv.1]; exact hk), wrN_find _ _ 32 k hk]
  by_cases hb : (hasOf 0 (effsW (runAllE v al))).testBit k = true
  · rw [if_pos hb]; rfl
  · rw [if_neg hb]
    refine (runAll_skip al k v fun x hx he => hb ?_).symm
    rw [hasOf_bit, Nat.zero_testBit, Bool.false_or, List.any_eq_true]
    exact ⟨x, hx, by simp [he]⟩
theorem laysN_get (t : Tr) : ∀ (n k : Nat) (hk : k < (laysN t n).length), (laysN t n)[k] = layT t k
  | 0, k, hk => by simp [laysN] at hk
  | n + 1, k, hk => by
    have hl := laysN_len t n
    simp only [laysN]
    by_cases h : k < n
    · rw [List.getElem_append_left (by omega)]
      exact laysN_get t n k (by omega)
    · have : k = n := by rw [laysN_len] at hk; omega
      subst this
      rw [List.getElem_append_right (by omega)]
      simp [hl]
theorem lays_valid {t : Tr} (h : treeB t = true) (k : Nat) (hk : k < (laysN t t.blocks.length).length) : inB (laysN t t.blocks.length)[k].below (-1) ((k : Int) - 1) = true ∧ evOk 0 (-1) (laysN t t.blocks.length)[k].writes = true := by
  rw [laysN_get]
  rw [laysN_len] at hk
  have hp := pAt_lt h hk
  exact ⟨inB_true.2 (by show -1 ≤ pAt t k ∧ pAt t k ≤ (k : Int) - 1; omega), wrN_ok (valOk_runAll (valOk_ahead h k) (acts_all (blk_acts h hk))) _ 32 (by omega)⟩
set_option maxRecDepth 100000 in
set_option maxHeartbeats 1000000 in
theorem layersValid_yes (A : Option Addr) (c : Nat) (xs : List Lay) (P : Nat → Prop) (w : World) (h : RdD layR P w A xs) (hv : ∀ k (hk : k < xs.length), inB xs[k].below (-1) ((k : Int) - 1) = true ∧ evOk 0 (-1) xs[k].writes = true) (hl : xs.length ≤ 20) (hw : ∀ x ∈ xs, x.writes.length ≤ 32) :
    Calls Tryz.prog 84 #[.slice A xs.length c] w fun e w' => e = .returned (.bool true) ∧ Below w.heap.size w w' := by
  have HV := hide hv
  have HW := hide hw
  clear hv hw
  go_enter Tryz.func84, Tryz.ntmps84
  go_wp2
  go_loopw [7] (fun i wr => ∃ (k : Nat), k ≤ xs.length ∧ i = .int .i64 k ∧ Below w.heap.size w wr) (fun i _ => xs.length - (intOf i).toNat)
  case atStart => exact ⟨0, Nat.zero_le _, rfl, Below.refl _ _⟩
  case round =>
    obtain ⟨k, hk, rfl, hB⟩ := hrel
    have hsz := hB.size
    by_cases hlt : k < xs.length
    · have i1 : (k : Int) < (xs.length : Int) := by omega
      obtain ⟨b, off, A1, c1, hA, -, hbb, d0, d1, r1⟩ := (h.new lay_good hB).lay hlt
      obtain ⟨v1, v2⟩ := unhide HV k hlt
      have hwl := unhide HW _ (List.getElem_mem hlt)
      generalize xs[k] = x at *
      have HA := hide hA
      have bx := (Below.refl wr.heap.size wr).alloc (Nat.le_refl _) (.cells #[.int .i64 x.below, .slice A1 x.writes.length c1] 87)
      have KI := in_any x.below (-1) ((k : Int) - 1) (wr.alloc (.cells #[.int .i64 x.below, .slice A1 x.writes.length c1] 87))
      have KE := entriesValid_any A1 c1 x.writes 0 (wr.alloc (.cells #[.int .i64 x.below, .slice A1 x.writes.length c1] 87)) (Rd.new r1.rd bx) (by omega)
      rw [v1] at KI
      rw [v2] at KE
      clear hA v1 v2 r1
      rw [unhide HA]
      go_wp2_with fail
      refine KI.mono ?_
      rintro e w1 ⟨rfl, rfl⟩
      go_wp2_with fail
      refine KE.mono ?_
      rintro e w2 ⟨rfl, b2⟩
      have hB2 := bthen (hB.alloc hsz _) b2
      go_wp2
      go_roundw
      case rel => exact ⟨k + 1, by omega, by go_num, hB2⟩
      case measure => simp [intOf]; omega
    · obtain rfl : k = xs.length := by omega
      have i2 : (xs.length : Int) ≤ 20 := by omega
      go_wp2
      go_ret
      exact ⟨rfl, hB⟩
set_option maxRecDepth 100000 in
set_option maxHeartbeats 2000000 in
theorem seen_impl (t : Tr) (hv : treeB t = true) (A1 : Option Addr) (c1 : Nat) (AL : Option Addr) (cl : Nat) (P : Nat → Prop) (f : Nat) : ∀ (n : Int) (w : World), n < (f : Int) → -1 ≤ n → n < t.blocks.length → Rd w A1 (t.base.flatMap encE) → RdD layR P w AL (laysN t t.blocks.length) →
    Calls Tryz.prog 47 #[.slice A1 t.base.length c1, .slice AL t.blocks.length cl, .int .i64 n] w fun e w' => e = .returned (.agg (vA (afterV t (pathT t n)))) ∧ Below w.heap.size w w' := by
  have HV := hide hv
  have hb1 : t.base.length ≤ 32 := store_len (treeB_yes hv).1
  have hkb : ∀ e ∈ t.base, 0 ≤ e.k ∧ e.k ≤ 31 := fun e he => by have := evOk_all (treeB_yes hv).1 e he; omega
  have HKB := hide hkb
  clear hv hkb
  induction f with
  | zero =>
    intro n w hn h0 h1 hr hd
    obtain rfl : n = -1 := by omega
    have HP := hide (show afterV t (pathT t (-1)) = valsL t.base by rw [pathT_out t (by omega)]; rfl)
    have hls : (vA (valsL t.base)).size = 32 := by rw [vA_size, valsL_len]
    have K1 : Blk (w.alloc (.cells zA 76)) w.heap.size 76 zA := Blk.new _ _ _
    have b0 : Below w.heap.size w (w.alloc (.cells zA 76)) := (Below.refl _ _).alloc (Nat.le_refl _) _
    have KV := valuesOf_any A1 c1 t.base (w.alloc (.cells zA 76)) (hr.new b0) (by omega) (unhide HKB)
    rw [unhide HP]
    go_enter Tryz.func47, Tryz.ntmps47
    go_wp2_with fail
    refine KV.mono ?_
    rintro e w3 ⟨rfl, b3⟩
    have K3 := K1.new_ b3
    have hB3 := bthen b0 b3
    go_wp2_with (refine wpList_store_row rfl 76 (.tmp 6) (.tmp 13) rfl w.heap.size (vA (valsL t.base)) rfl rfl 76 zA K3 (by rw [hls]; exact info_vals) (by rw [hls]; rfl) (vA_one _) ?_)
    refine bodyPost_ret (v := .agg (vA (valsL t.base))) (results_cell_row (p := 6) (ty := 76) rfl _ _ w.heap.size 76 (vA (valsL t.base)) (0, 0) _ rfl (blk_setRow K3) Tryz.underlying76 rfl (by rw [hls]; exact info_vals)) rfl ⟨rfl, ?_⟩
    exact ⟨hB3.os, hB3.tape, hB3.output, by rw [size_setRow]; exact hB3.size, fun q hq => (setRow_other w3 w.heap.size q _ (by omega)).trans (hB3.block q hq)⟩
  | succ f ih =>
    intro n w hn h0 h1 hr hd
    by_cases hneg : n < 0
    · exact ih n w (by omega) h0 h1 hr hd
    obtain ⟨q, rfl⟩ := Int.eq_ofNat_of_zero_le (show 0 ≤ n by omega)
    have hq : q < t.blocks.length := by omega
    have hql : q < (laysN t t.blocks.length).length := by rw [laysN_len]; exact hq
    have hp := pAt_lt (unhide HV) hq
    have HS := hide (show setAll (afterV t (pathT t (pAt t q))) (layT t q).writes = afterV t (pathT t (q : Int)) by
      rw [after_step (unhide HV) hq]
      exact set_layer (valOk_ahead (unhide HV) q) (acts_all (blk_acts (unhide HV) hq)))
    have hvl := (valOk_ahead (unhide HV) q).1
    have hvl2 : (afterV t (pathT t (pAt t q))).length = 32 := hvl
    have HK := hide (fun e (he : e ∈ (layT t q).writes) => (show 0 ≤ e.k ∧ e.k ≤ 31 from by
      have hl := lays_valid (unhide HV) q hql
      rw [laysN_get] at hl
      have := evOk_all hl.2 e he
      omega))
    have hwl : (layT t q).writes.length ≤ 32 := wrN_len _ _ 32
    obtain ⟨w0, hw0⟩ : ∃ w0 : World, w0 = w.alloc (.cells zA 76) := ⟨_, rfl⟩
    have b0 : Below w.heap.size w w0 := by rw [hw0]; exact (Below.refl _ _).alloc (Nat.le_refl _) _
    have K1 : Blk w0 w.heap.size 76 zA := by rw [hw0]; exact Blk.new _ _ _
    obtain ⟨bq, off, L1, e1, hA, -, hbb, d0, d1, r1⟩ := (hd.new lay_good b0).lay hql
    rw [laysN_get] at d0 d1 r1
    have hbel : (layT t q).below = pAt t q := rfl
    rw [hbel] at d0
    have IH := ih (pAt t q) w0 (by omega) (by omega) (by omega) (hr.new b0) (hd.new lay_good b0)
    have i1 : (q : Int) < (t.blocks.length : Int) := by omega
    have HA := hide hA
    have HL := hide (fun (w' : World) (b : Below w0.heap.size w0 w') => show w'.cell? ⟨bq, off + q * 2 + 1, none⟩ = some (.slice L1 (layT t q).writes.length e1) ∧ Rd w' L1 ((layT t q).writes.flatMap encE) from ⟨(b.cell (p := ⟨bq, off + q * 2 + 1, none⟩) hbb).trans d1, Rd.new r1.rd b⟩)
    clear hA hbel ih hr hd d1 r1 hvl
    generalize afterV t (pathT t (pAt t q)) = av at *
    generalize afterV t (pathT t (q : Int)) = nv at *
    generalize (layT t q).writes = ws at *
    generalize pAt t q = pk at *
    rw [unhide HA] at IH ⊢
    unfold zA at hw0
    go_enter Tryz.func47, Tryz.ntmps47
    go_upto_region 3 with fail
    rw [← hw0]
    clear hw0
    go_wp2_with fail
    refine IH.mono ?_
    rintro e w3 ⟨rfl, b3⟩
    obtain ⟨d3, r3⟩ := unhide HL w3 b3
    have hB3 := bthen b0 b3
    have K3 := K1.new_ b3
    have hls : (vA av).size = 32 := by rw [vA_size, hvl2]
    obtain ⟨kz, kv, b4⟩ := one_vals w3 76 av
    have hs3 := hB3.size
    have hK3 := K3.lt
    clear IH d0
    have hs03 := b3.size
    obtain ⟨g, hg⟩ : ∃ g, g = w3.heap.size := ⟨_, rfl⟩
    go_wp2_with (refine wpList_store_row rfl 76 (.tmp 7) (.tmp 21) rfl w3.heap.size (vA av) rfl rfl 76 zA kz (by rw [hls]; exact info_vals) (by rw [hls]; rfl) (vA_one _) ?_; refine at_world (C := fun W => wpList _ _ _ _ _ W) (F := fun W => Blk W w3.heap.size 76 (vA av) ∧ Below w3.heap.size w3 W) ⟨kv, b4⟩ ?_; clear kz kv b4; rintro w4 ⟨kv, b4⟩; rw [← hg] at kv ⊢; have HG := hide hg; clear hg; obtain ⟨d4, r4⟩ := unhide HL w4 (bthen b3 b4))
    have hB4 := bthen hB3 b4
    have K4 := K3.new_ b4
    have hgw : w.heap.size < g := by have := unhide HG; omega
    have HBZ := hide (fun (w' : World) (hc : Chg (fun q => q = g) w4 w') => show Below w0.heap.size w0 w' ∧ Below w.heap.size w w' from by
      have hb := bthen b3 b4
      exact ⟨hb.trans (hc.below (fun q hq e => by have := unhide HG; omega) hb.size), hB4.trans (hc.below (fun q hq e => by omega) hB4.size)⟩)
    clear b3 b4 d3 r3 K3
    go_loopw [28] (fun i wr => ∃ j : Nat, j ≤ ws.length ∧ i = .int .i64 j ∧ Blk wr g 76 (vA (setAll av (ws.take j))) ∧ Chg (fun q => q = g) w4 wr) (fun i _ => ws.length - (intOf i).toNat)
    case atStart => exact ⟨0, Nat.zero_le _, rfl, kv, Chg.refl _ _⟩
    case round =>
      clear kv d4 r4
      obtain ⟨j, hj, rfl, kv, hch⟩ := hrel
      obtain ⟨bz0, bzw⟩ := unhide HBZ wr hch
      by_cases hlt : j < ws.length
      · obtain ⟨bb, ob, hLe, hbb2, c0, c1⟩ := (unhide HL wr bz0).2.ent hlt
        have hkb := unhide HK ws[j] (List.getElem_mem hlt)
        have HSJ := hide (show setAll av (ws.take (j + 1)) = (setAll av (ws.take j)).set ws[j].k.toNat ws[j].v by rw [List.take_succ_eq_append_getElem hlt, setAll_snoc]; rfl)
        have hlen : (setAll av (ws.take j)).length = 32 := (setAll_len _ _).trans hvl2
        generalize setAll av (ws.take j) = v at *
        generalize ws[j] = x at *
        obtain ⟨key, val⟩ := x
        simp only at c0 c1 hkb HSJ
        obtain ⟨p, rfl⟩ := Int.eq_ofNat_of_zero_le hkb.1
        have i2 : (j : Int) < (ws.length : Int) := by omega
        have i3 : (p : Int) < 32 := by omega
        have i4 : p < 32 := by omega
        have cv := vA_get kv (show p < v.length by omega)
        have zv := kv.frozen p
        have hvl := kv.lt
        have hne : g ≠ wr.heap.size := by omega
        have HLE := hide hLe
        clear hLe
        rw [unhide HLE]
        go_wp2
        go_roundw
        case rel => exact ⟨j + 1, by omega, by go_num, by rw [unhide HSJ]; exact (vA_set kv p val).alloc _, (hch.setCell (p := ⟨g, p, none⟩) (.inl rfl) _).alloc _⟩
        case measure => simp [intOf]; omega
      · obtain rfl : j = ws.length := by omega
        rw [List.take_length, unhide HS] at kv
        have kr := K4.chg hch (by omega)
        have hlv : (vA nv).size = 32 := by
          rw [vA_size, ← unhide HS, setAll_len, hvl2]
        have hgz : zA.size = 32 := rfl
        have hkr := blk_setRow (ds := vA nv) kr
        go_wp2_with (first | (refine wpList_load_row rfl 76 (.tmp 7) rfl g rfl 76 (vA nv) (0, 0) _ kv Tryz.underlying76 rfl (by rw [hlv]; exact info_vals) ?_) | (refine wpList_store_row rfl 76 (.tmp 6) (.tmp 38) rfl w.heap.size (vA nv) rfl rfl 76 zA kr (by rw [hlv]; exact info_vals) (by rw [hlv]; rfl) (vA_one _) ?_))
        refine bodyPost_ret (v := .agg (vA nv)) (results_cell_row (p := 6) (ty := 76) rfl _ _ w.heap.size 76 (vA nv) (0, 0) _ rfl hkr Tryz.underlying76 rfl (by rw [hlv]; exact info_vals)) rfl ⟨rfl, ?_⟩
        exact ⟨bzw.os, bzw.tape, bzw.output, by rw [size_setRow]; exact bzw.size, fun q hq => (setRow_other wr w.heap.size q _ (by omega)).trans (bzw.block q hq)⟩
set_option maxRecDepth 100000 in
set_option maxHeartbeats 2000000 in
theorem layerRead_impl (t : Tr) (hv : treeB t = true) (A1 : Option Addr) (c1 : Nat) (AL : Option Addr) (cl : Nat) (P : Nat → Prop) (n : Nat) (key : Nat) (w : World) (hn : n < t.blocks.length) (hkey : key < 32) (hr : Rd w A1 (t.base.flatMap encE)) (hd : RdD layR P w AL (laysN t t.blocks.length)) :
    Calls Tryz.prog 13 #[.slice A1 t.base.length c1, .slice AL t.blocks.length cl, .int .i64 (n : Int), .int .i64 (key : Int)] w fun e w' => e = .returned (.int .i64 ((afterV t (pathT t (n : Int))).getD key 0)) ∧ Below w.heap.size w w' := by
  have HV := hide hv
  have hb14 := (treeB_yes hv).2.2.1
  have hst := (treeB_yes hv).1
  have hb1 : t.base.length ≤ 32 := store_len hst
  have hin : inB (n : Int) (-1) ((t.blocks.length : Int) - 1) = true := inB_true.2 (by omega)
  have hik : inB (key : Int) 0 31 = true := inB_true.2 (by omega)
  have KF : Calls Tryz.prog 46 #[.slice A1 t.base.length c1, .slice AL t.blocks.length cl, .int .i64 (n : Int)] w fun e w' => e = .returned (.bool true) ∧ Below w.heap.size w w' := by
    have KS := storeB_impl A1 c1 t.base w hr (by omega)
    rw [hst] at KS
    have HLV := hide (fun (w' : World) (b : Below w.heap.size w w') => layersValid_yes AL cl (laysN t t.blocks.length) P w' (hd.new lay_good b) (lays_valid (unhide HV)) (by rw [laysN_len]; omega) (fun x hx => by
      obtain ⟨k, hk, rfl⟩ := List.getElem_of_mem hx
      rw [laysN_get]
      exact wrN_len _ _ 32))
    rw [laysN_len] at HLV
    have HIN := hide (fun (w' : World) => by
      have := in_any (n : Int) (-1) ((t.blocks.length : Int) - 1) w'
      rw [hin] at this
      exact this)
    clear hin hik hst
    go_enter Tryz.func46, Tryz.ntmps46
    go_wp2_with fail
    refine KS.mono ?_
    rintro e w1 ⟨rfl, b1⟩
    go_wp2_with fail
    refine (unhide HLV w1 b1).mono ?_
    rintro e w2 ⟨rfl, b2⟩
    have b12 := bthen b1 b2
    go_wp2_with fail
    refine (unhide HIN w2).mono ?_
    rintro e w3 ⟨rfl, rfl⟩
    go_wp2
    go_ret
    exact ⟨rfl, b12⟩
  have HSN := hide (fun (w' : World) (b : Below w.heap.size w w') => seen_impl t (unhide HV) A1 c1 AL cl P (n + 1) (n : Int) w' (by omega) (by omega) (by omega) (hr.new b) (hd.new lay_good b))
  have HIK := hide (fun (w' : World) => by
    have := isKey_any (key : Int) w'
    rw [hik] at this
    exact this)
  have hvl := (valOk_after (unhide HV) (pathT t (n : Int)) (fun x hx => pathT_mem hx)).1
  generalize afterV t (pathT t (n : Int)) = av at *
  have hix := index_vals av hvl key hkey
  have i1 : (key : Int) < 32 := by omega
  generalize av.getD key 0 = r at *
  clear hin hik hst
  go_enter Tryz.func13, Tryz.ntmps13
  go_wp2_with fail
  refine KF.mono ?_
  rintro e w1 ⟨rfl, b1⟩
  clear KF
  go_wp2_with fail
  refine (unhide HIK w1).mono ?_
  rintro e w2 ⟨rfl, rfl⟩
  go_wp2_with fail
  refine (unhide HSN w1 b1).mono ?_
  rintro e w3 ⟨rfl, b3⟩
  go_wp2
  go_ret
  exact ⟨rfl, bthen b1 b3⟩
end Go.Proofs.YtefdhlfljpppfaaGreat
namespace Go.Proofs.YtefdhlfljpppfaaGreat
open Go.RowKit
set_option linter.unusedVariables false
set_option linter.unusedSimpArgs false

theorem ask_after {t : Tr} {n key : Int} (hok : askOk t n key = true) : (askA t n key).value = (afterV t (pathT t n)).getD key.toNat 0 := by
  have h := hok
  simp only [askOk, Bool.and_eq_true] at h
  have hk := inB_true.1 h.2.2
  have hv := valOk_after h.1 (pathT t n) (fun x hx => pathT_mem hx)
  have := (storeL_ok hv).2 key.toNat (by omega)
  rw [show ((key.toNat : Nat) : Int) = key by omega] at this
  rw [askA_yes hok, storeT_yes h.1 h.2.1, this]
def bLays (t : Tr) (v : Value) (w : World) : Prop := ∃ A c P, v = .slice A t.blocks.length c ∧ RdD layR P w A (laysN t t.blocks.length)
theorem sb_Lays (t : Tr) : StB (bLays t) := fun _ _ _ hb ⟨A, c, P, h1, h2⟩ => ⟨A, c, P, h1, h2.new lay_good hb⟩
theorem info_ansF4 : (Tryz.prog.info? 31).map (·.size) = some 3 := by kernel_rfl
theorem ans3_one4 (a b : Int) (A : Option Addr) (n k : Nat) : (#[Value.int .i64 a, .int .i64 b, .slice A n k]).all (·.oneCell') = true := by
  simp [Value.oneCell']
set_option maxRecDepth 100000 in
set_option maxHeartbeats 8000000 in
theorem law_FnBranchRead (A : Option Addr) (c : Nat) (bs : List Int) (w : World) (h : Rd w A (bs.map (.int .u8))) (hw : ∀ b ∈ bs, 0 ≤ b ∧ b ≤ 255) (hc : bs.length ≤ c) (hm : c ≤ maxLen) :
    Calls Tryz.prog 3 #[.slice A bs.length c] w fun e w' => e = .returned (.bool true) ∧ Below w.heap.size w w' := by
  have hm2 : bs.length ≤ 9223372036854775807 := by simp only [maxLen] at hm; omega
  by_cases hl : (1048576 : Int) < (bs.length : Int)
  · clear hw
    go_enter Tryz.func3, Tryz.ntmps3
    go_wp2
    go_ret
    exact ⟨rfl, Below.refl _ _⟩
  have HW := hide hw
  have HC := hide hc
  have HM := hide hm
  clear hw hc hm
  go_enter Tryz.func3, Tryz.ntmps3
  go_wp2_with fail
  refine (DrawAskBlock_any A c bs w h (unhide HW) (unhide HC) (unhide HM)).mono ?_
  rintro e w1 ⟨t, A1, c1, A2, c2, A3, c3, z, key, rfl, hz, hkl, ⟨hd1, ⟨hd2, hd2'⟩, hd3, hd4⟩, hR1, hB⟩
  clear h hz
  go_wp2_with (refine wpList_store_row rfl 27 (.tmp 3) (.tmp 16) rfl w1.heap.size #[.slice A1 t.base.length c1, .slice A2 t.blocks.length c2, .slice A3 t.before.length c3] rfl rfl 27 #[.slice none 0 0, .slice none 0 0, .slice none 0 0] (box_new w1 27 #[.slice none 0 0, .slice none 0 0, .slice none 0 0] #[.slice A1 t.base.length c1, .slice A2 t.blocks.length c2, .slice A3 t.before.length c3]).1 info_tr rfl (sl3_one _ _ _ _ _ _ _ _ _) ?_; refine at_world (C := fun W => wpList _ _ _ _ _ W) (F := fun W => Blk W w1.heap.size 27 #[.slice A1 t.base.length c1, .slice A2 t.blocks.length c2, .slice A3 t.before.length c3] ∧ Below w1.heap.size w1 W) ⟨(box_new w1 27 #[.slice none 0 0, .slice none 0 0, .slice none 0 0] #[.slice A1 t.base.length c1, .slice A2 t.blocks.length c2, .slice A3 t.before.length c3]).2.1, (box_new w1 27 #[.slice none 0 0, .slice none 0 0, .slice none 0 0] #[.slice A1 t.base.length c1, .slice A2 t.blocks.length c2, .slice A3 t.before.length c3]).2.2⟩ ?_; rintro w2 ⟨kb, b2⟩; obtain ⟨bx, hbx⟩ : ∃ q, q = w1.heap.size := ⟨_, rfl⟩; rw [← hbx] at kb ⊢; have Hbx := hide hbx; clear hbx; have x0 : w2.cell? ⟨bx, 0, none⟩ = some (.slice A1 t.base.length c1) := kb.cell 0; have x1 : w2.cell? ⟨bx, 1, none⟩ = some (.slice A2 t.blocks.length c2) := kb.cell 1; have x2 : w2.cell? ⟨bx, 2, none⟩ = some (.slice A3 t.before.length c3) := kb.cell 2)
  have hbx1 : w.heap.size ≤ bx := by have := hB.size; have := unhide Hbx; omega
  replace hB := bthen hB b2
  have hbl := kb.lt
  have HR := hide (fun (w' : World) (hb : Below w2.heap.size w2 w') => hR1.new (bthen b2 hb))
  have HD4 := hide (fun x (hx : x ∈ t.blocks) => show x.list.length ≤ 1099511627776 by have := hd4 x hx; omega)
  have HX := hide (fun (w' : World) (hb : Below w2.heap.size w2 w') => show (w'.cell? ⟨bx, 0, none⟩ = some (.slice A1 t.base.length c1) ∧ w'.cell? ⟨bx, 1, none⟩ = some (.slice A2 t.blocks.length c2) ∧ w'.cell? ⟨bx, 2, none⟩ = some (.slice A3 t.before.length c3)) from ⟨(kb.new_ hb).cell 0, (kb.new_ hb).cell 1, (kb.new_ hb).cell 2⟩)
  have HAI := hide (fun (w' : World) (hb : Below w2.heap.size w2 w') => ask_impl t A1 c1 A2 c2 A3 c3 z key w' (unhide HR w' hb) (by omega) (by omega) (unhide HD4) (by omega))
  have HAS := hide (fun (w' : World) (hb : Below w2.heap.size w2 w') => ask_spec t A1 c1 A2 c2 A3 c3 z key w' (unhide HR w' hb) (by omega) (by omega) (unhide HD4) (by omega))
  have HBLY := hide (fun (w' : World) (hb : Below w2.heap.size w2 w') (hv : treeB t = true) => branchLayers_impl t A1 c1 A2 c2 A3 c3 w' (unhide HR w' hb) hv (by omega) (by omega) (unhide HD4) (by omega))
  have hpl := askA_len t z key
  have HYES := hide (fun h : askOk t z key = true => show treeB t = true ∧ (0 ≤ z ∧ z < t.blocks.length) ∧ (0 ≤ key ∧ key < 32) ∧ (askA t z key).value = (afterV t (pathT t z)).getD key.toNat 0 by
    have h2 := h
    simp only [askOk, Bool.and_eq_true] at h2
    have hi := inB_true.1 h2.2.1
    have hj := inB_true.1 h2.2.2
    exact ⟨h2.1, by omega, by omega, ask_after h⟩)
  simp only [trA] at HAI HAS HBLY
  generalize askA t z key = an at *
  generalize hok : askOk t z key = ok at *
  have HOK := hide hok
  clear hok hR1 hd4 kb b2
  refine (unhide HAI w2 (Below.refl _ _)).mono ?_
  rintro e w3 ⟨A7, c7, rfl, o7, b3⟩
  have r73 := own_rd o7
  clear x0 x1 x2 o7
  go_wp2_with (refine wpList_store_row rfl 31 (.tmp 6) (.tmp 24) rfl w3.heap.size #[.int .i64 an.key, .int .i64 an.value, .slice A7 an.proof.length c7] rfl rfl 31 #[.int .i64 0, .int .i64 0, .slice none 0 0] (box_new w3 31 #[.int .i64 0, .int .i64 0, .slice none 0 0] #[.int .i64 an.key, .int .i64 an.value, .slice A7 an.proof.length c7]).1 info_ansF4 rfl (ans3_one4 _ _ _ _ _) ?_; refine at_world (C := fun W => wpList _ _ _ _ _ W) (F := fun W => Blk W w3.heap.size 31 #[.int .i64 an.key, .int .i64 an.value, .slice A7 an.proof.length c7] ∧ Below w3.heap.size w3 W) ⟨(box_new w3 31 #[.int .i64 0, .int .i64 0, .slice none 0 0] #[.int .i64 an.key, .int .i64 an.value, .slice A7 an.proof.length c7]).2.1, (box_new w3 31 #[.int .i64 0, .int .i64 0, .slice none 0 0] #[.int .i64 an.key, .int .i64 an.value, .slice A7 an.proof.length c7]).2.2⟩ ?_; rintro w4 ⟨k4, b4⟩; obtain ⟨ga, hga⟩ : ∃ q, q = w3.heap.size := ⟨_, rfl⟩; rw [← hga] at k4 ⊢; have Hga := hide hga; clear hga; have bxx := bthen b3 b4; obtain ⟨x0, x1, x2⟩ := unhide HX w4 bxx)
  refine (unhide HAS w4 bxx).mono ?_
  rintro e w5 ⟨A8, c8, rfl, o8, b5⟩
  have r85 := own_rd o8
  have r75 := (r73.new b4).new b5
  have k5 := k4.new_ b5
  have b25 := bthen bxx b5
  clear x0 x1 x2 o8 r73 k4 bxx b3 b4 b5
  have hnv : (an.value != an.value) = false := by simp
  go_wp2_with (refine wpList_store_row rfl 31 (.tmp 8) (.tmp 31) rfl w5.heap.size #[.int .i64 an.key, .int .i64 an.value, .slice A8 an.proof.length c8] rfl rfl 31 #[.int .i64 0, .int .i64 0, .slice none 0 0] (box_new w5 31 #[.int .i64 0, .int .i64 0, .slice none 0 0] #[.int .i64 an.key, .int .i64 an.value, .slice A8 an.proof.length c8]).1 info_ansF4 rfl (ans3_one4 _ _ _ _ _) ?_; refine at_world (C := fun W => wpList _ _ _ _ _ W) (F := fun W => Blk W w5.heap.size 31 #[.int .i64 an.key, .int .i64 an.value, .slice A8 an.proof.length c8] ∧ Below w5.heap.size w5 W) ⟨(box_new w5 31 #[.int .i64 0, .int .i64 0, .slice none 0 0] #[.int .i64 an.key, .int .i64 an.value, .slice A8 an.proof.length c8]).2.1, (box_new w5 31 #[.int .i64 0, .int .i64 0, .slice none 0 0] #[.int .i64 an.key, .int .i64 an.value, .slice A8 an.proof.length c8]).2.2⟩ ?_; rintro w6 ⟨k6, b6⟩; obtain ⟨gb, hgb⟩ : ∃ q, q = w5.heap.size := ⟨_, rfl⟩; rw [← hgb] at k6 ⊢; have Hgb := hide hgb; clear hgb; have k56 := k5.new_ b6; have p1 : w6.cell? ⟨ga, 1, none⟩ = some (.int .i64 an.value) := k56.cell 1; have p2 : w6.cell? ⟨ga, 2, none⟩ = some (.slice A7 an.proof.length c7) := k56.cell 2; have q1 : w6.cell? ⟨gb, 1, none⟩ = some (.int .i64 an.value) := k6.cell 1; have q2 : w6.cell? ⟨gb, 2, none⟩ = some (.slice A8 an.proof.length c8) := k6.cell 2)
  refine (sameInts_any A7 A8 c7 c8 an.proof an.proof w6 (r75.new b6) (r85.new b6) (by omega)).mono ?_
  rintro e w7 ⟨rfl, m7, hw7⟩
  have b67 := below_drewN (Below.refl w6.heap.size w6) m7
  rw [hw7] at b67
  rw [show decide (an.proof = an.proof) = true by simp]
  have b27 := bthen (bthen b25 b6) b67
  have k57 := k56.new_ b67
  have r77 := (r75.new b6).new b67
  clear p1 p2 q1 q2 r75 r85 k5 k6 k56 b6 b25 hw7 b67
  cases ok
  · go_wp2_with fail
    refine (alive_any w7).mono ?_
    rintro e w8 ⟨rfl, b8⟩
    go_wp2
    go_ret
    exact ⟨rfl, bthen hB (bthen b27 b8)⟩
  obtain ⟨hv, ⟨hz0, hz1⟩, ⟨hk0, hk1⟩, hval⟩ := unhide HYES rfl
  clear HYES HAI HAS HOK r77
  obtain ⟨q, rfl⟩ := Int.eq_ofNat_of_zero_le hz0
  obtain ⟨kk, rfl⟩ := Int.eq_ofNat_of_zero_le hk0
  rw [Int.toNat_natCast] at hval
  have hqn : q < t.blocks.length := by omega
  have hkk : kk < 32 := by omega
  have HVAL := hide hval
  have HV := hide hv
  clear hval hz0 hk0
  have HRD := hide (fun (w' : World) (n0 : Nat) (hn0 : n0 = q) (AL : Option Addr) (cl : Nat) (P : Nat → Prop) (hb : Below w2.heap.size w2 w') (hd : RdD layR P w' AL (laysN t t.blocks.length)) => layerRead_impl t (unhide HV) A1 c1 AL cl P q kk w' hqn hkk (unhide HR w' hb).b1 hd)
  have HX7 := hide (fun (w' : World) (b : Below w7.heap.size w7 w') => show (w'.cell? ⟨bx, 0, none⟩ = some (.slice A1 t.base.length c1) ∧ w'.cell? ⟨bx, 1, none⟩ = some (.slice A2 t.blocks.length c2) ∧ w'.cell? ⟨bx, 2, none⟩ = some (.slice A3 t.before.length c3)) ∧ w'.cell? ⟨ga, 1, none⟩ = some (.int .i64 an.value) ∧ Below w2.heap.size w2 w' from
    ⟨unhide HX w' (bthen b27 b), (k57.new_ b).cell 1, bthen b27 b⟩)
  have HB27 := hide (bthen hB b27)
  clear hB b27 k57 hv
  generalize (afterV t (pathT t (q : Int))).getD kk 0 = av at *
  have hF : StBL [bV (.pointer (some ⟨bx, 0, none⟩)), bV (.slice A1 t.base.length c1), bV (.agg #[.slice A1 t.base.length c1, .slice A2 t.blocks.length c2, .slice A3 t.before.length c3]), bLays t, bV (.int .i64 (q : Int)), bV (.int .i64 (kk : Int)), bV (.int .i64 av), bV (.pointer (some ⟨ga, 1, none⟩)), bV (.int .i64 an.value)] :=
    ⟨sb_V _, sb_V _, sb_V _, sb_Lays _, sb_V _, sb_V _, sb_V _, sb_V _, sb_V _, trivial⟩
  go_upto_region 10 with fail
  refine wp_region_loc (by kernel_rfl) [(0, some 54), (1, some 55), (2, some 56), (3, some 57), (4, some 58), (5, some 59), (6, some 60), (7, some 61), (8, some 62)] [[], [(0, some 54)], [], [(2, some 56)], [], [], [(1, some 55), (3, some 57), (4, some 58), (5, some 59)], [], [(7, some 61)]] (by kernel_rfl)
    (locB _) (fun a b => Below a.heap.size a b) noR [0, 0, 0, 0, 0, 0, 0, 0, 0] 0 (by kernel_rfl) (fun _ => Below.refl _ _) (fun _ _ _ => bthen) (locB_st hF _) trivial ?_ ?_
  · refine steps_cons ?s0 ( steps_cons ?s1 ( steps_cons ?s2 ( steps_cons ?s3 ( steps_cons ?s4 ( steps_cons ?s5 ( steps_cons ?s6 ( steps_cons ?s7 ( steps_cons ?s8 steps_nil))))))))
    case s0 =>
      intro w' m' hE hR
      intro Q hQ
      go_wp2
      exact hQ _ _ _ rfl rfl (Below.refl _ _) trivial
    case s1 =>
      intro w' m' hE hR
      rintro _ rfl Q hQ
      obtain ⟨⟨s6, s7, s8⟩, s9, s15⟩ := unhide HX7 w' (below_undrew hE)
      go_wp2
      exact hQ _ _ _ rfl rfl (Below.refl _ _) trivial
    case s2 =>
      intro w' m' hE hR
      intro Q hQ
      obtain ⟨⟨s6, s7, s8⟩, s9, s15⟩ := unhide HX7 w' (below_undrew hE)
      go_wp2
      exact hQ _ _ _ rfl rfl (Below.refl _ _) trivial
    case s3 =>
      intro w' m' hE hR
      rintro _ rfl Q hQ
      obtain ⟨⟨s6, s7, s8⟩, s9, s15⟩ := unhide HX7 w' (below_undrew hE)
      go_wp2_with fail
      refine (unhide HBLY w' s15 (unhide HV)).mono ?_
      rintro e w9 ⟨AL, cl, rfl, rL, b9⟩
      go_wp2
      exact hQ _ _ _ rfl ⟨AL, cl, _, rfl, rL⟩ b9 trivial
    case s4 =>
      intro w' m' hE hR
      intro Q hQ
      go_wp2
      exact hQ _ _ _ rfl rfl (Below.refl _ _) trivial
    case s5 =>
      intro w' m' hE hR
      intro Q hQ
      go_wp2
      exact hQ _ _ _ rfl rfl (Below.refl _ _) trivial
    case s6 =>
      intro w' m' hE hR
      rintro _ rfl _ ⟨AL, cl, PL, rfl, rL⟩ _ rfl _ rfl Q hQ
      obtain ⟨⟨s6, s7, s8⟩, s9, s15⟩ := unhide HX7 w' (below_undrew hE)
      go_wp2_with fail
      refine (unhide HRD w' q rfl AL cl PL s15 rL).mono ?_
      rintro e w9 ⟨rfl, b9⟩
      go_wp2
      exact hQ _ _ _ rfl rfl b9 trivial
    case s7 =>
      intro w' m' hE hR
      intro Q hQ
      go_wp2
      exact hQ _ _ _ rfl rfl (Below.refl _ _) trivial
    case s8 =>
      intro w' m' hE hR
      rintro _ rfl Q hQ
      obtain ⟨⟨s6, s7, s8⟩, s9, s15⟩ := unhide HX7 w' (below_undrew hE)
      go_wp2
      exact hQ _ _ _ rfl rfl (Below.refl _ _) trivial
  intro w9 hE _
  rintro v0 - v1 - v2 - v3 - v4 - v5 - v6 hv6 v7 - v8 hv8
  obtain rfl : v6 = _ := hv6
  obtain rfl : v8 = _ := hv8
  change wpList _ _ _ [_, _] _ _
  simp only [Act.put, List.setIfInBounds_toArray, List.set_cons_succ, List.set_cons_zero]
  have b9 := below_undrew hE
  clear hE hF
  have hve : (av == an.value) = true := by rw [unhide HVAL]; simp
  go_wp2
  go_ret
  exact ⟨rfl, bthen (unhide HB27) b9⟩
end Go.Proofs.YtefdhlfljpppfaaGreat
