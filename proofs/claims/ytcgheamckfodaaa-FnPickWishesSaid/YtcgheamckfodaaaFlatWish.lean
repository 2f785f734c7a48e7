/- Wish: slices of a struct of 6 integers in memory; the laws' helpers over them. -/
import Derived.Test.YtcgheamckfodaaaIntS
import Derived.StillTailTactics
import Derived.Test.YtcgheamckfodaaaFlatAction
import Derived.Test.YtcgheamckfodaaaRdr
namespace Go.Proofs.Ytcgheamckfodaaa
open Go.RowKit
set_option linter.unusedVariables false
set_option linter.unusedSimpArgs false

structure Wsh where
  kind : Int
  src : Int
  dst : Int
  amt : Int
  fee : Int
  who : Int
deriving DecidableEq
def encW (e : Wsh) : List Value := [.int .i64 e.kind, .int .i64 e.src, .int .i64 e.dst, .int .i64 e.amt, .int .i64 e.fee, .int .i64 e.who]
theorem encW_len (e : Wsh) : (encW e).length = 6 := rfl
theorem Rd.wsh {w : World} {A : Option Addr} {es : List Wsh} (h : Rd w A (es.flatMap encW)) {k : Nat} (hk : k < es.length) :
    ∃ b off, A = some ⟨b, off, none⟩ ∧ b < w.heap.size ∧ w.cell? ⟨b, off + k * 6, none⟩ = some (.int .i64 es[k].kind) ∧ w.cell? ⟨b, off + k * 6 + 1, none⟩ = some (.int .i64 es[k].src) ∧ w.cell? ⟨b, off + k * 6 + 2, none⟩ = some (.int .i64 es[k].dst) ∧ w.cell? ⟨b, off + k * 6 + 3, none⟩ = some (.int .i64 es[k].amt) ∧ w.cell? ⟨b, off + k * 6 + 4, none⟩ = some (.int .i64 es[k].fee) ∧ w.cell? ⟨b, off + k * 6 + 5, none⟩ = some (.int .i64 es[k].who) := by
  obtain ⟨b, off, e, hb, hc⟩ := h.flat encW 6 (fun _ => rfl) (by omega) hk
  exact ⟨b, off, e, hb, hc 0 _ rfl, hc 1 _ rfl, hc 2 _ rfl, hc 3 _ rfl, hc 4 _ rfl, hc 5 _ rfl⟩
theorem own_wsh {w : World} {base : Nat} {e : TypeId} {g c n : Nat} {es : List Wsh} (h : w.ownsRow base e 6 (.slice (some ⟨g, 0, none⟩) n c) n (es.flatMap encW)) {k : Nat} (hk : k < es.length) :
    (∃ u, w.cell? ⟨g, k * 6, none⟩ = some u) ∧ (∃ u, w.cell? ⟨g, k * 6 + 1, none⟩ = some u) ∧ (∃ u, w.cell? ⟨g, k * 6 + 2, none⟩ = some u) ∧ (∃ u, w.cell? ⟨g, k * 6 + 3, none⟩ = some u) ∧ (∃ u, w.cell? ⟨g, k * 6 + 4, none⟩ = some u) ∧ (∃ u, w.cell? ⟨g, k * 6 + 5, none⟩ = some u) := by
  have hl : (es.flatMap encW).length = es.length * 6 := length_flat encW 6 encW_len es
  exact ⟨⟨_, own_cell h (k * 6) (by omega)⟩, ⟨_, own_cell h (k * 6 + 1) (by omega)⟩, ⟨_, own_cell h (k * 6 + 2) (by omega)⟩, ⟨_, own_cell h (k * 6 + 3) (by omega)⟩, ⟨_, own_cell h (k * 6 + 4) (by omega)⟩, ⟨_, own_cell h (k * 6 + 5) (by omega)⟩⟩
theorem own_wsh_set {w : World} {base : Nat} {e : TypeId} {g c n : Nat} {es : List Wsh} (h : w.ownsRow base e 6 (.slice (some ⟨g, 0, none⟩) n c) n (es.flatMap encW)) {k : Nat} (hk : k < es.length) (x : Wsh) :
    ((((((w.setCell ⟨g, k * 6, none⟩ (.int .i64 x.kind)).setCell ⟨g, k * 6 + 1, none⟩ (.int .i64 x.src)).setCell ⟨g, k * 6 + 2, none⟩ (.int .i64 x.dst)).setCell ⟨g, k * 6 + 3, none⟩ (.int .i64 x.amt)).setCell ⟨g, k * 6 + 4, none⟩ (.int .i64 x.fee)).setCell ⟨g, k * 6 + 5, none⟩ (.int .i64 x.who)).ownsRow base e 6 (.slice (some ⟨g, 0, none⟩) n c) n ((es.set k x).flatMap encW) := by
  have := (own_set (own_set (own_set (own_set (own_set (own_set h (k * 6) (.int .i64 x.kind)) (k * 6 + 1) (.int .i64 x.src)) (k * 6 + 2) (.int .i64 x.dst)) (k * 6 + 3) (.int .i64 x.amt)) (k * 6 + 4) (.int .i64 x.fee)) (k * 6 + 5) (.int .i64 x.who))
  rw [← setAt_flat encW 6 encW_len es k hk x]
  exact this

theorem info_wsh : (Try.prog.info? 45).map (fun i => (i.zero, i.size, i.bytes)) = some (some (.agg #[.int .i64 0, .int .i64 0, .int .i64 0, .int .i64 0, .int .i64 0, .int .i64 0]), 6, 48) := by kernel_rfl
theorem zeroes_wsh (n : Nat) : madeCells #[Value.int .i64 0, Value.int .i64 0, Value.int .i64 0, Value.int .i64 0, Value.int .i64 0, Value.int .i64 0] (n * 6) = ((List.replicate n (⟨0, 0, 0, 0, 0, 0⟩ : Wsh)).flatMap encW).toArray := by
  apply Array.ext
  · rw [size_madeCells, List.size_toArray, length_flat encW 6 encW_len, List.length_replicate]
  · intro i h1 h2
    have hi : i < n * 6 := by rw [size_madeCells] at h1; exact h1
    have hq : i / 6 < (List.replicate n (⟨0, 0, 0, 0, 0, 0⟩ : Wsh)).length := by rw [List.length_replicate]; omega
    have hg := get_flat encW 6 encW_len (List.replicate n (⟨0, 0, 0, 0, 0, 0⟩ : Wsh)) (i / 6) hq (i % 6) (by omega)
    rw [show i / 6 * 6 + i % 6 = i by omega] at hg
    have hr : ∀ r, r < 6 → (encW (⟨0, 0, 0, 0, 0, 0⟩ : Wsh))[r]? = some (Value.int .i64 0) := by
      intro r hr
      match r, hr with
      | 0, _ => rfl
      | 1, _ => rfl
      | 2, _ => rfl
      | 3, _ => rfl
      | 4, _ => rfl
      | 5, _ => rfl
    rw [List.getElem_replicate, hr _ (by omega)] at hg
    have h3 := (List.getElem?_eq_some_iff.1 hg).2
    refine Eq.trans ?_ ((List.getElem_toArray h2).trans h3).symm
    simp only [madeCells, Array.getElem_map, Array.getElem_range]
    have h4 : ∀ r, r < 6 → (#[Value.int .i64 0, Value.int .i64 0, Value.int .i64 0, Value.int .i64 0, Value.int .i64 0, Value.int .i64 0] : Array Value)[r]! = Value.int .i64 0 := by
      intro r hr
      match r, hr with
      | 0, _ => rfl
      | 1, _ => rfl
      | 2, _ => rfl
      | 3, _ => rfl
      | 4, _ => rfl
      | 5, _ => rfl
    exact h4 _ (Nat.mod_lt _ (by simp))
theorem make_wsh (n : Nat) (hn : n ≤ 1048576) (w : World) : (Instr.makeSlice 25 (.int .i64 (n : Int)) (.int .i64 (n : Int))).run Try.prog w = .ok (.slice (some ⟨w.heap.size, 0, none⟩) n n) (w.alloc (.cells ((List.replicate n (⟨0, 0, 0, 0, 0, 0⟩ : Wsh)).flatMap encW).toArray 45)) := by
  obtain ⟨i0, hi0, hz0, hz1, hz2⟩ := info_parts info_wsh
  rw [run_make_rowN 25 45 i0 _ Try.underlying25 hi0 hz0 _ _ n n (Nat.le_refl _) (by rw [hz2]; omega) (by omega), hz1]
  simp only [Value.cells]
  rw [zeroes_wsh]

theorem Blk.far {w : World} {g : Nat} {t : TypeId} {cs : Array Value} (h : Blk w g t cs) {p : Addr} (hp : p.block ≠ g) (u : Value) : Blk (w.setCell p u) g t cs := (Below.heap_setCell _ _ _ _ (fun e => hp e.symm)).trans h
set_option maxHeartbeats 1000000 in
theorem toWish_any (x : Wsh) (w : World) :
    Calls Try.prog 34 #[.agg #[.int .i64 x.kind, .int .i64 x.src, .int .i64 x.dst, .int .i64 x.amt, .int .i64 x.fee, .int .i64 x.who]] w fun e w' => e = .returned (.agg #[.int .i64 x.kind, .int .i64 x.src, .int .i64 x.dst, .int .i64 x.amt, .int .i64 x.fee, .int .i64 x.who]) ∧ Below w.heap.size w w' := by
  have k0 := ((Blk.new w 57 #[.int .i64 x.kind, .int .i64 x.src, .int .i64 x.dst, .int .i64 x.amt, .int .i64 x.fee, .int .i64 x.who]).alloc (.cells #[.int .i64 0, .int .i64 0, .int .i64 0, .int .i64 0, .int .i64 0, .int .i64 0] 45)).alloc (.cells #[.int .i64 0, .int .i64 0, .int .i64 0, .int .i64 0, .int .i64 0, .int .i64 0] 45)
  have k1 := (Blk.new (w.alloc (.cells #[.int .i64 x.kind, .int .i64 x.src, .int .i64 x.dst, .int .i64 x.amt, .int .i64 x.fee, .int .i64 x.who] 57)) 45 #[.int .i64 0, .int .i64 0, .int .i64 0, .int .i64 0, .int .i64 0, .int .i64 0]).alloc (.cells #[.int .i64 0, .int .i64 0, .int .i64 0, .int .i64 0, .int .i64 0, .int .i64 0] 45)
  have k2 := Blk.new ((w.alloc (.cells #[.int .i64 x.kind, .int .i64 x.src, .int .i64 x.dst, .int .i64 x.amt, .int .i64 x.fee, .int .i64 x.who] 57)).alloc (.cells #[.int .i64 0, .int .i64 0, .int .i64 0, .int .i64 0, .int .i64 0, .int .i64 0] 45)) 45 #[.int .i64 0, .int .i64 0, .int .i64 0, .int .i64 0, .int .i64 0, .int .i64 0]
  simp only [World.size_alloc] at k1 k2
  go_enter Try.func34, Try.ntmps34
  go_wp2_with fail
  refine (toAction_any ⟨x.kind, x.src, x.dst, x.amt⟩ _).mono ?_
  rintro e w1 ⟨rfl, b1⟩
  replace k0 := k0.new_ b1
  replace k1 := k1.new_ b1
  replace k2 := k2.new_ b1
  have hB : Below w.heap.size w w1 := ((((Below.refl _ _).alloc (Nat.le_refl _) _).alloc (by simp) _).alloc (by simp; omega) _).trans (b1.mono (by simp; omega))
  have z0 : w1.cell? ⟨w.heap.size, 0, none⟩ = some (.int .i64 x.kind) := k0.cell 0
  have y0 : w1.cell? ⟨w.heap.size + 1, 0, none⟩ = some (.int .i64 0) := k1.cell 0
  have v0 : w1.cell? ⟨w.heap.size + 1 + 1, 0, none⟩ = some (.int .i64 0) := k2.cell 0
  have p0 : w1.frozen? ⟨w.heap.size + 1, 0, none⟩ = false := k1.frozen 0
  have q0 : w1.frozen? ⟨w.heap.size + 1 + 1, 0, none⟩ = false := k2.frozen 0
  have z1 : w1.cell? ⟨w.heap.size, 1, none⟩ = some (.int .i64 x.src) := k0.cell 1
  have y1 : w1.cell? ⟨w.heap.size + 1, 1, none⟩ = some (.int .i64 0) := k1.cell 1
  have v1 : w1.cell? ⟨w.heap.size + 1 + 1, 1, none⟩ = some (.int .i64 0) := k2.cell 1
  have p1 : w1.frozen? ⟨w.heap.size + 1, 1, none⟩ = false := k1.frozen 1
  have q1 : w1.frozen? ⟨w.heap.size + 1 + 1, 1, none⟩ = false := k2.frozen 1
  have z2 : w1.cell? ⟨w.heap.size, 2, none⟩ = some (.int .i64 x.dst) := k0.cell 2
  have y2 : w1.cell? ⟨w.heap.size + 1, 2, none⟩ = some (.int .i64 0) := k1.cell 2
  have v2 : w1.cell? ⟨w.heap.size + 1 + 1, 2, none⟩ = some (.int .i64 0) := k2.cell 2
  have p2 : w1.frozen? ⟨w.heap.size + 1, 2, none⟩ = false := k1.frozen 2
  have q2 : w1.frozen? ⟨w.heap.size + 1 + 1, 2, none⟩ = false := k2.frozen 2
  have z3 : w1.cell? ⟨w.heap.size, 3, none⟩ = some (.int .i64 x.amt) := k0.cell 3
  have y3 : w1.cell? ⟨w.heap.size + 1, 3, none⟩ = some (.int .i64 0) := k1.cell 3
  have v3 : w1.cell? ⟨w.heap.size + 1 + 1, 3, none⟩ = some (.int .i64 0) := k2.cell 3
  have p3 : w1.frozen? ⟨w.heap.size + 1, 3, none⟩ = false := k1.frozen 3
  have q3 : w1.frozen? ⟨w.heap.size + 1 + 1, 3, none⟩ = false := k2.frozen 3
  have z4 : w1.cell? ⟨w.heap.size, 4, none⟩ = some (.int .i64 x.fee) := k0.cell 4
  have y4 : w1.cell? ⟨w.heap.size + 1, 4, none⟩ = some (.int .i64 0) := k1.cell 4
  have v4 : w1.cell? ⟨w.heap.size + 1 + 1, 4, none⟩ = some (.int .i64 0) := k2.cell 4
  have p4 : w1.frozen? ⟨w.heap.size + 1, 4, none⟩ = false := k1.frozen 4
  have q4 : w1.frozen? ⟨w.heap.size + 1 + 1, 4, none⟩ = false := k2.frozen 4
  have z5 : w1.cell? ⟨w.heap.size, 5, none⟩ = some (.int .i64 x.who) := k0.cell 5
  have y5 : w1.cell? ⟨w.heap.size + 1, 5, none⟩ = some (.int .i64 0) := k1.cell 5
  have v5 : w1.cell? ⟨w.heap.size + 1 + 1, 5, none⟩ = some (.int .i64 0) := k2.cell 5
  have p5 : w1.frozen? ⟨w.heap.size + 1, 5, none⟩ = false := k1.frozen 5
  have q5 : w1.frozen? ⟨w.heap.size + 1 + 1, 5, none⟩ = false := k2.frozen 5
  clear k0 k2 b1
  have K1 := hide k1
  clear k1
  go_wp2
  have kb := (Blk.set_ (Blk.set_ (Blk.set_ (Blk.set_ (Blk.set_ (Blk.set_ (Blk.far (Blk.far (Blk.far (Blk.far (Blk.far (Blk.far (unhide K1) (p := ⟨w.heap.size + 1 + 1, 0, none⟩) (by simp only []; omega) (.int .i64 x.kind)) (p := ⟨w.heap.size + 1 + 1, 1, none⟩) (by simp only []; omega) (.int .i64 x.src)) (p := ⟨w.heap.size + 1 + 1, 2, none⟩) (by simp only []; omega) (.int .i64 x.dst)) (p := ⟨w.heap.size + 1 + 1, 3, none⟩) (by simp only []; omega) (.int .i64 x.amt)) (p := ⟨w.heap.size + 1 + 1, 4, none⟩) (by simp only []; omega) (.int .i64 x.fee)) (p := ⟨w.heap.size + 1 + 1, 5, none⟩) (by simp only []; omega) (.int .i64 x.who)) 0 (.int .i64 x.kind)) 1 (.int .i64 x.src)) 2 (.int .i64 x.dst)) 3 (.int .i64 x.amt)) 4 (.int .i64 x.fee)) 5 (.int .i64 x.who))
  have hb := (Below.setCell (Below.setCell (Below.setCell (Below.setCell (Below.setCell (Below.setCell (Below.setCell (Below.setCell (Below.setCell (Below.setCell (Below.setCell (Below.setCell hB (p := ⟨w.heap.size + 1 + 1, 0, none⟩) (by simp only []; omega) (.int .i64 x.kind)) (p := ⟨w.heap.size + 1 + 1, 1, none⟩) (by simp only []; omega) (.int .i64 x.src)) (p := ⟨w.heap.size + 1 + 1, 2, none⟩) (by simp only []; omega) (.int .i64 x.dst)) (p := ⟨w.heap.size + 1 + 1, 3, none⟩) (by simp only []; omega) (.int .i64 x.amt)) (p := ⟨w.heap.size + 1 + 1, 4, none⟩) (by simp only []; omega) (.int .i64 x.fee)) (p := ⟨w.heap.size + 1 + 1, 5, none⟩) (by simp only []; omega) (.int .i64 x.who)) (p := ⟨w.heap.size + 1, 0, none⟩) (by simp only []; omega) (.int .i64 x.kind)) (p := ⟨w.heap.size + 1, 1, none⟩) (by simp only []; omega) (.int .i64 x.src)) (p := ⟨w.heap.size + 1, 2, none⟩) (by simp only []; omega) (.int .i64 x.dst)) (p := ⟨w.heap.size + 1, 3, none⟩) (by simp only []; omega) (.int .i64 x.amt)) (p := ⟨w.heap.size + 1, 4, none⟩) (by simp only []; omega) (.int .i64 x.fee)) (p := ⟨w.heap.size + 1, 5, none⟩) (by simp only []; omega) (.int .i64 x.who))
  have kb2 := hide kb
  clear kb
  generalize hF : World.setCell _ _ _ = wF at hb ⊢
  have kb : Blk wF (w.heap.size + 1) 45 #[.int .i64 x.kind, .int .i64 x.src, .int .i64 x.dst, .int .i64 x.amt, .int .i64 x.fee, .int .i64 x.who] := by rw [← hF]; exact unhide kb2
  clear kb2 hF
  have c0 : wF.cell? ⟨w.heap.size + 1, 0, none⟩ = some (.int .i64 x.kind) := kb.cell 0
  have c1 : wF.cell? ⟨w.heap.size + 1, 1, none⟩ = some (.int .i64 x.src) := kb.cell 1
  have c2 : wF.cell? ⟨w.heap.size + 1, 2, none⟩ = some (.int .i64 x.dst) := kb.cell 2
  have c3 : wF.cell? ⟨w.heap.size + 1, 3, none⟩ = some (.int .i64 x.amt) := kb.cell 3
  have c4 : wF.cell? ⟨w.heap.size + 1, 4, none⟩ = some (.int .i64 x.fee) := kb.cell 4
  have c5 : wF.cell? ⟨w.heap.size + 1, 5, none⟩ = some (.int .i64 x.who) := kb.cell 5
  refine bodyPost_ret (v := .agg #[.int .i64 x.kind, .int .i64 x.src, .int .i64 x.dst, .int .i64 x.amt, .int .i64 x.fee, .int .i64 x.who]) (by simp [results, Try.results34, go_sem, c0, c1, c2, c3, c4, c5]) rfl ⟨rfl, hb⟩

theorem toWishS_any (A : Option Addr) (c : Nat) (xs : List Wsh) (w : World) (hb : xs.length ≤ 1048576) (h : Rd w A (xs.flatMap encW)) :
    Calls Try.prog 11 #[.slice A xs.length c] w fun e w' => ∃ A' c', e = .returned (.slice A' xs.length c') ∧ w'.ownsRow w.heap.size 45 6 (.slice A' xs.length c') xs.length (xs.flatMap encW) ∧ Below w.heap.size w w' := by
  have hmk := fun W => make_wsh xs.length hb W
  go_enter Try.func11, Try.ntmps11
  go_wp2
  go_loopw [4] (fun i wr => ∃ k : Nat, k ≤ xs.length ∧ i = .int .i64 k ∧ wr.ownsRow w.heap.size 45 6 (.slice (some ⟨w.heap.size, 0, none⟩) xs.length xs.length) xs.length ((fill xs ⟨0, 0, 0, 0, 0, 0⟩ k).flatMap encW) ∧ Below w.heap.size w wr) (fun i _ => xs.length - (intOf i).toNat)
  case atStart =>
    refine ⟨0, Nat.zero_le _, rfl, ?_, (Below.refl _ _).alloc (Nat.le_refl _) _⟩
    rw [fill_zero]
    exact own_made (base := w.heap.size) (e := 45) (size := 6) w _ xs.length (Nat.le_refl _) (by simp only [maxLen]; omega) (by rw [List.size_toArray, length_flat encW 6 encW_len, List.length_replicate])
  case round =>
    clear hmk
    obtain ⟨k, hk, rfl, hown, hbel⟩ := hrel
    by_cases hlt : k < xs.length
    · obtain ⟨b, off, rfl, hbb, hc0, hc1, hc2, hc3, hc4, hc5⟩ := (h.below hbel (Nat.le_refl _)).wsh hlt
      have hfs := hide (fill_succ xs ⟨0, 0, 0, 0, 0, 0⟩ k hlt)
      generalize hxk : xs[k] = xk at *
      clear hxk
      go_wp2_with fail
      refine (toWish_any _ _).mono ?_
      rintro e w1 ⟨rfl, hb1⟩
      have hown1 := own_new hown hb1
      have hkf : k < (fill xs (⟨0, 0, 0, 0, 0, 0⟩ : Wsh) k).length := by rw [fill_length _ _ _ hk]; exact hlt
      obtain ⟨⟨u100, hd0⟩, ⟨u101, hd1⟩, ⟨u102, hd2⟩, ⟨u103, hd3⟩, ⟨u104, hd4⟩, ⟨u105, hd5⟩⟩ := own_wsh hown1 hkf
      have hz0 : w1.frozen? ⟨w.heap.size, k * 6, none⟩ = false := own_frozen hown1 _
      have hz1 : w1.frozen? ⟨w.heap.size, k * 6 + 1, none⟩ = false := own_frozen hown1 _
      have hz2 : w1.frozen? ⟨w.heap.size, k * 6 + 2, none⟩ = false := own_frozen hown1 _
      have hz3 : w1.frozen? ⟨w.heap.size, k * 6 + 3, none⟩ = false := own_frozen hown1 _
      have hz4 : w1.frozen? ⟨w.heap.size, k * 6 + 4, none⟩ = false := own_frozen hown1 _
      have hz5 : w1.frozen? ⟨w.heap.size, k * 6 + 5, none⟩ = false := own_frozen hown1 _
      have hset := own_wsh_set hown1 hkf xk
      rw [← unhide hfs] at hset
      have hbel1 := below_then hbel hb1 hbel.size
      clear hown hown1 hkf
      go_wp2
      go_roundw
      case rel => exact ⟨k + 1, by omega, by go_num, hset, (((((hbel1.setCell (Nat.le_refl _) _).setCell (Nat.le_refl _) _).setCell (Nat.le_refl _) _).setCell (Nat.le_refl _) _).setCell (Nat.le_refl _) _).setCell (Nat.le_refl _) _⟩
      case measure => simp [intOf]; omega
    · have : k = xs.length := by omega
      subst this
      rw [fill_all] at hown
      go_wp2
      go_ret
      exact ⟨_, _, rfl, hown, hbel⟩
theorem szWishS_any (A : Option Addr) (n c : Nat) (l : Int) (w : World) (hn : n ≤ 9223372036854775807) (h0 : 0 ≤ l) (h1 : l ≤ 1048576) :
    Calls Try.prog 9 #[.slice A n c, .int .i64 l] w fun e w' => e = .returned (.int .i64 (if (n : Int) ≤ l then l - n else -1)) ∧ w = w' := by
  by_cases h : (n : Int) ≤ l
  · have HI := hide (show (if (n : Int) ≤ l then l - (n : Int) else -1) = l - n from if_pos h)
    have h2 : 0 ≤ l - (n : Int) := by omega
    go_enter Try.func9, Try.ntmps9
    go_wp2
    go_ret
    exact ⟨by first | rfl | exact reti (unhide HI).symm, rfl⟩
  · have HI := hide (show (if (n : Int) ≤ l then l - (n : Int) else -1) = -1 from if_neg h)
    have h2 : l - (n : Int) < 0 := by omega
    go_enter Try.func9, Try.ntmps9
    go_wp2
    go_ret
    exact ⟨by first | rfl | exact reti (unhide HI).symm, rfl⟩
theorem eqWish_any (x y : Wsh) (w : World) :
    Calls Try.prog 38 #[.agg #[.int .i64 x.kind, .int .i64 x.src, .int .i64 x.dst, .int .i64 x.amt, .int .i64 x.fee, .int .i64 x.who], .agg #[.int .i64 y.kind, .int .i64 y.src, .int .i64 y.dst, .int .i64 y.amt, .int .i64 y.fee, .int .i64 y.who]] w fun e w' => e = .returned (.bool (decide (x = y))) ∧ Below w.heap.size w w' := by
  by_cases h0 : x.kind = y.kind
  · have g0 : (x.kind != y.kind) = false := by simp [h0]
    by_cases h1 : x.src = y.src
    · have g1 : (x.src != y.src) = false := by simp [h1]
      by_cases h2 : x.dst = y.dst
      · have g2 : (x.dst != y.dst) = false := by simp [h2]
        by_cases h3 : x.amt = y.amt
        · have g3 : (x.amt != y.amt) = false := by simp [h3]
          by_cases h4 : x.fee = y.fee
          · have g4 : (x.fee != y.fee) = false := by simp [h4]
            by_cases h5 : x.who = y.who
            · have g5 : (x.who != y.who) = false := by simp [h5]
              have H := hide (show x = y by cases x; cases y; simp_all)
              clear h0 h1 h2 h3 h4 h5
              go_enter Try.func38, Try.ntmps38
              go_wp2
              go_ret
              exact ⟨retb (by simp [unhide H]), by repeat (first | exact Below.refl _ _ | (refine Below.alloc ?_ (by first | exact Nat.le_refl _ | (simp; done) | (simp; omega)) _))⟩
            · have g5 : (x.who != y.who) = true := by simp [h5]
              have H := hide (show ¬ x = y by intro h; exact h5 (by rw [h]))
              clear h0 h1 h2 h3 h4 h5
              go_enter Try.func38, Try.ntmps38
              go_wp2
              go_ret
              exact ⟨retb (by simp [unhide H]), by repeat (first | exact Below.refl _ _ | (refine Below.alloc ?_ (by first | exact Nat.le_refl _ | (simp; done) | (simp; omega)) _))⟩
          · have g4 : (x.fee != y.fee) = true := by simp [h4]
            have H := hide (show ¬ x = y by intro h; exact h4 (by rw [h]))
            clear h0 h1 h2 h3 h4
            go_enter Try.func38, Try.ntmps38
            go_wp2
            go_ret
            exact ⟨retb (by simp [unhide H]), by repeat (first | exact Below.refl _ _ | (refine Below.alloc ?_ (by first | exact Nat.le_refl _ | (simp; done) | (simp; omega)) _))⟩
        · have g3 : (x.amt != y.amt) = true := by simp [h3]
          have H := hide (show ¬ x = y by intro h; exact h3 (by rw [h]))
          clear h0 h1 h2 h3
          go_enter Try.func38, Try.ntmps38
          go_wp2
          go_ret
          exact ⟨retb (by simp [unhide H]), by repeat (first | exact Below.refl _ _ | (refine Below.alloc ?_ (by first | exact Nat.le_refl _ | (simp; done) | (simp; omega)) _))⟩
      · have g2 : (x.dst != y.dst) = true := by simp [h2]
        have H := hide (show ¬ x = y by intro h; exact h2 (by rw [h]))
        clear h0 h1 h2
        go_enter Try.func38, Try.ntmps38
        go_wp2
        go_ret
        exact ⟨retb (by simp [unhide H]), by repeat (first | exact Below.refl _ _ | (refine Below.alloc ?_ (by first | exact Nat.le_refl _ | (simp; done) | (simp; omega)) _))⟩
    · have g1 : (x.src != y.src) = true := by simp [h1]
      have H := hide (show ¬ x = y by intro h; exact h1 (by rw [h]))
      clear h0 h1
      go_enter Try.func38, Try.ntmps38
      go_wp2
      go_ret
      exact ⟨retb (by simp [unhide H]), by repeat (first | exact Below.refl _ _ | (refine Below.alloc ?_ (by first | exact Nat.le_refl _ | (simp; done) | (simp; omega)) _))⟩
  · have g0 : (x.kind != y.kind) = true := by simp [h0]
    have H := hide (show ¬ x = y by intro h; exact h0 (by rw [h]))
    clear h0
    go_enter Try.func38, Try.ntmps38
    go_wp2
    go_ret
    exact ⟨retb (by simp [unhide H]), by repeat (first | exact Below.refl _ _ | (refine Below.alloc ?_ (by first | exact Nat.le_refl _ | (simp; done) | (simp; omega)) _))⟩
set_option maxRecDepth 100000 in
theorem eqWishS_any (A B : Option Addr) (c d : Nat) (xs ys : List Wsh) (w : World) (hx : Rd w A (xs.flatMap encW)) (hy : Rd w B (ys.flatMap encW)) (hbx : xs.length ≤ 4611686018427387904) :
    Calls Try.prog 13 #[.slice A xs.length c, .slice B ys.length d] w fun e w' => e = .returned (.bool (decide (xs = ys))) ∧ Below w.heap.size w w' := by
  by_cases hl : xs.length = ys.length
  · have hd : ((xs.length : Int) != (ys.length : Int)) = false := by simp [hl]
    have HL := hide hl
    have hl1 : xs.length ≤ ys.length := by omega
    have hl2 : ys.length ≤ xs.length := by omega
    clear hl
    go_enter Try.func13, Try.ntmps13
    go_wp2
    go_loopw [5] (fun i wr => ∃ k : Nat, k ≤ xs.length ∧ i = .int .i64 k ∧ (∀ j (h1 : j < xs.length) (h2 : j < ys.length), j < k → xs[j] = ys[j]) ∧ Below w.heap.size w wr) (fun i _ => xs.length - (intOf i).toNat)
    case atStart => exact ⟨0, Nat.zero_le _, rfl, fun j _ _ h => absurd h (by omega), Below.refl _ _⟩
    case round =>
      obtain ⟨k, hk, rfl, hsame, hbel⟩ := hrel
      have HS := hide hsame
      clear hsame
      by_cases hlt : k < xs.length
      · have hlt2 : k < ys.length := by omega
        obtain ⟨b, off, rfl, hbb, hc0, hc1, hc2, hc3, hc4, hc5⟩ := (hx.below hbel (Nat.le_refl _)).wsh hlt
        obtain ⟨b', off', rfl, hbb', hc0', hc1', hc2', hc3', hc4', hc5'⟩ := (hy.below hbel (Nat.le_refl _)).wsh hlt2
        generalize hxk : xs[k] = xk at *
        generalize hyk : ys[k] = yk at *
        have HX := hide hxk
        have HY := hide hyk
        clear hxk hyk
        have i1 : (k : Int) < (xs.length : Int) := by omega
        have i2 : (k : Int) < (ys.length : Int) := by omega
        have hbel2 := hbel.drew
        by_cases he : xk = yk
        · have hn : decide (xk = yk) = true := by simp [he]
          have HE := hide he
          clear he
          go_wp2
          go_still_tail 8, (by kernel_rfl)
          change wpList _ _ _ _ _ wr.drew
          go_wp2_with (go_at_call 38; refine (eqWish_any _ _ _).mono ?_; rintro e w1 ⟨rfl, hb1⟩)
          go_roundw
          case rel =>
            refine ⟨k + 1, by omega, by go_num, fun j h1 h2 hj => ?_, below_then hbel2 hb1 hbel2.size⟩
            rcases Nat.lt_or_ge j k with h3 | h3
            · exact unhide HS j h1 h2 h3
            · have : j = k := by omega
              subst this
              exact (unhide HX).trans ((unhide HE).trans (unhide HY).symm)
          case measure => simp [intOf]; omega
        · have hn : decide (xk = yk) = false := by simp [he]
          have HE := hide he
          clear he
          go_wp2
          go_still_tail 8, (by kernel_rfl)
          change wpList _ _ _ _ _ wr.drew
          go_wp2_with (go_at_call 38; refine (eqWish_any _ _ _).mono ?_; rintro e w1 ⟨rfl, hb1⟩)
          go_ret
          refine ⟨retb ?_, below_then hbel2 hb1 hbel2.size⟩
          symm
          rw [decide_eq_false_iff_not]
          intro hxy
          apply unhide HE
          have h1 := unhide HX
          have h2 := unhide HY
          subst hxy
          exact h1.symm.trans h2
      · go_wp2
        go_ret
        refine ⟨retb ?_, hbel⟩
        symm
        rw [decide_eq_true_iff]
        exact List.ext_getElem (unhide HL) fun j h1 h2 => unhide HS j h1 h2 (by omega)
  · have hd : ((xs.length : Int) != (ys.length : Int)) = true := by simp; omega
    have HL := hide hl
    clear hl
    go_enter Try.func13, Try.ntmps13
    go_wp2
    go_ret
    refine ⟨retb ?_, Below.refl _ _⟩
    symm
    rw [decide_eq_false_iff_not]
    exact fun h => unhide HL (by rw [h])
def markWsh (k : Int) (n : Nat) : List Wsh := (List.range n).map fun i : Nat => ⟨k + (i : Int) * 6, k + (i : Int) * 6 + 1, k + (i : Int) * 6 + 2, k + (i : Int) * 6 + 3, k + (i : Int) * 6 + 4, k + (i : Int) * 6 + 5⟩
theorem markWsh_succ (k : Int) (n : Nat) : markWsh k (n + 1) = markWsh k n ++ [⟨k + (n : Int) * 6, k + (n : Int) * 6 + 1, k + (n : Int) * 6 + 2, k + (n : Int) * 6 + 3, k + (n : Int) * 6 + 4, k + (n : Int) * 6 + 5⟩] := by simp [markWsh, List.range_succ]
theorem markWsh_length (k : Int) (n : Nat) : (markWsh k n).length = n := by simp [markWsh]
theorem markWsh_get (k : Int) (n i : Nat) (h : i < (markWsh k n).length) : (markWsh k n)[i] = ⟨k + (i : Int) * 6, k + (i : Int) * 6 + 1, k + (i : Int) * 6 + 2, k + (i : Int) * 6 + 3, k + (i : Int) * 6 + 4, k + (i : Int) * 6 + 5⟩ := by simp [markWsh]
theorem markWishS_any (A : Option Addr) (c base : Nat) (k0 : Int) (xs : List Wsh) (w : World) (hown : w.ownsRow base 45 6 (.slice A xs.length c) xs.length (xs.flatMap encW)) (hb : xs.length ≤ 1152921504606846976) (h0 : 0 ≤ k0) (h1 : k0 ≤ 1152921504606846976) :
    Calls Try.prog 17 #[.slice A xs.length c, .int .i64 k0] w fun e w' => e = .returned (.int .i64 (k0 + xs.length * 6)) ∧ w'.ownsRow base 45 6 (.slice A xs.length c) xs.length ((markWsh k0 xs.length).flatMap encW) ∧ Chg (fun g => A = some ⟨g, 0, none⟩) w w' := by
  go_enter Try.func17, Try.ntmps17
  go_wp2
  go_loopw [1, 5] (fun kk i wr => ∃ k : Nat, k ≤ xs.length ∧ i = .int .i64 k ∧ kk = .int .i64 (k0 + k * 6) ∧ wr.ownsRow base 45 6 (.slice A xs.length c) xs.length ((markWsh k0 k ++ xs.drop k).flatMap encW) ∧ Chg (fun g => A = some ⟨g, 0, none⟩) w wr) (fun _ i _ => xs.length - (intOf i).toNat)
  case atStart => exact ⟨0, Nat.zero_le _, rfl, by simp, by simpa [markWsh] using hown, Chg.refl _ _⟩
  case round =>
    clear hown
    obtain ⟨k, hk, rfl, rfl, hown, hchg⟩ := hrel
    by_cases hlt : k < xs.length
    · obtain ⟨g, rfl, hg1, hg2⟩ := own_addr hown (by omega)
      have hkf : k < (markWsh k0 k ++ xs.drop k).length := by simp [markWsh_length]; omega
      obtain ⟨⟨u100, hd0⟩, ⟨u101, hd1⟩, ⟨u102, hd2⟩, ⟨u103, hd3⟩, ⟨u104, hd4⟩, ⟨u105, hd5⟩⟩ := own_wsh hown hkf
      have hz0 : wr.frozen? ⟨g, k * 6, none⟩ = false := own_frozen hown _
      have hz1 : wr.frozen? ⟨g, k * 6 + 1, none⟩ = false := own_frozen hown _
      have hz2 : wr.frozen? ⟨g, k * 6 + 2, none⟩ = false := own_frozen hown _
      have hz3 : wr.frozen? ⟨g, k * 6 + 3, none⟩ = false := own_frozen hown _
      have hz4 : wr.frozen? ⟨g, k * 6 + 4, none⟩ = false := own_frozen hown _
      have hz5 : wr.frozen? ⟨g, k * 6 + 5, none⟩ = false := own_frozen hown _
      have hset := own_wsh_set hown hkf ⟨k0 + (k : Int) * 6, k0 + (k : Int) * 6 + 1, k0 + (k : Int) * 6 + 2, k0 + (k : Int) * 6 + 3, k0 + (k : Int) * 6 + 4, k0 + (k : Int) * 6 + 5⟩
      have he : (markWsh k0 k ++ xs.drop k).set k ⟨k0 + (k : Int) * 6, k0 + (k : Int) * 6 + 1, k0 + (k : Int) * 6 + 2, k0 + (k : Int) * 6 + 3, k0 + (k : Int) * 6 + 4, k0 + (k : Int) * 6 + 5⟩ = markWsh k0 (k + 1) ++ xs.drop (k + 1) := by
        rw [List.set_append_right _ _ (by simp [markWsh_length])]
        rw [markWsh_length, Nat.sub_self, List.drop_eq_getElem_cons hlt, List.set_cons_zero, markWsh_succ]
        simp
      rw [he] at hset
      have q2 : k0 + (k : Int) * 6 + 2 = k0 + (k : Int) * 6 + 1 + 1 := by omega
      have q3 : k0 + (k : Int) * 6 + 3 = k0 + (k : Int) * 6 + 1 + 1 + 1 := by omega
      have q4 : k0 + (k : Int) * 6 + 4 = k0 + (k : Int) * 6 + 1 + 1 + 1 + 1 := by omega
      have q5 : k0 + (k : Int) * 6 + 5 = k0 + (k : Int) * 6 + 1 + 1 + 1 + 1 + 1 := by omega
      simp only [q2, q3, q4, q5] at hset
      clear q2 q3 q4 q5
      clear he hkf hown
      go_wp2
      go_roundw
      case rel => exact ⟨k + 1, by omega, by go_num, by go_num, hset, (((((hchg.setCell (.inl rfl) _).setCell (.inl rfl) _).setCell (.inl rfl) _).setCell (.inl rfl) _).setCell (.inl rfl) _).setCell (.inl rfl) _⟩
      case measure => simp [intOf]; omega
    · have : k = xs.length := by omega
      subst this
      rw [List.drop_length, List.append_nil] at hown
      go_wp2
      go_ret
      exact ⟨rfl, hown, hchg⟩
end Go.Proofs.Ytcgheamckfodaaa
