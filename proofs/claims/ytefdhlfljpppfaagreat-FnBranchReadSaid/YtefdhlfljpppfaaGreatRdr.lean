/- The reader of drawn codes: l20Open, pick, odd. What is drawn is only bounded, not known. -/
import Derived.Test.YtefdhlfljpppfaaGreatIntS
import Derived.Laws.BitsAllLaws
import Derived.Laws.BitsLemmas
namespace Go.Proofs.YtefdhlfljpppfaaGreat
open Go.RowKit
set_option linter.unusedVariables false
set_option linter.unusedSimpArgs false

def Blk (w : World) (g : Nat) (t : TypeId) (cs : Array Value) : Prop := w.heap[g]? = some (.cells cs t (0, 0))
section
variable {w w' : World} {g : Nat} {t : TypeId} {cs : Array Value}
theorem Blk.lt (h : Blk w g t cs) : g < w.heap.size := (Array.getElem?_eq_some_iff.1 h).1
theorem Blk.cell (h : Blk w g t cs) (i : Nat) : w.cell? ⟨g, i, none⟩ = cs[i]? := cell_of_row w g i cs t (0, 0) h
theorem Blk.frozen (h : Blk w g t cs) (i : Nat) : w.frozen? ⟨g, i, none⟩ = false := by
  unfold Blk at h
  simp [World.frozen?, h]
theorem Blk.new (w : World) (t : TypeId) (cs : Array Value) : Blk (w.alloc (.cells cs t)) w.heap.size t cs := heap_alloc_new w _
theorem Blk.alloc (h : Blk w g t cs) (o : Obj) : Blk (w.alloc o) g t cs := (Below.heap_alloc w o g h.lt).trans h
theorem Blk.set_ (h : Blk w g t cs) (i : Nat) (u : Value) : Blk (w.setCell ⟨g, i, none⟩ u) g t (cs.setIfInBounds i u) := by
  unfold Blk at h ⊢
  simp [World.setCell, Array.getElem?_modify, h]
theorem Blk.keep (h : Blk w g t cs) (hk : w'.heap[g]? = w.heap[g]?) : Blk w' g t cs := hk.trans h
theorem Blk.new_ (h : Blk w g t cs) (hb : Below w.heap.size w w') : Blk w' g t cs := (hb.block g h.lt).trans h
end

theorem ofInt_i64 (a : Nat) (ha : a < 9223372036854775808) : (BitVec.ofInt 64 (a : Int)).toNat = a := by
  rw [BitVec.ofInt_natCast, BitVec.toNat_ofNat]; exact Nat.mod_eq_of_lt (by omega)
theorem i64_and_nat (a b : Nat) (ha : a < 9223372036854775808) (hb : b < 9223372036854775808) : bits .and .i64 (a : Int) (b : Int) = ((a &&& b : Nat) : Int) := by
  have hx : a &&& b < 2 ^ 63 := Nat.and_lt_two_pow _ (by omega)
  show IntKind.i64.wrap ((BitVec.ofInt 64 (a : Int) &&& BitVec.ofInt 64 (b : Int)).toNat : Int) = _
  rw [BitVec.toNat_and, ofInt_i64 a ha, ofInt_i64 b hb, IntKind.wrap_i64]
  omega
theorem i64_or_nat (a b : Nat) (ha : a < 9223372036854775808) (hb : b < 9223372036854775808) : bits .or .i64 (a : Int) (b : Int) = ((a ||| b : Nat) : Int) := by
  have hx : a ||| b < 2 ^ 63 := Nat.or_lt_two_pow (by omega) (by omega)
  show IntKind.i64.wrap ((BitVec.ofInt 64 (a : Int) ||| BitVec.ofInt 64 (b : Int)).toNat : Int) = _
  rw [BitVec.toNat_or, ofInt_i64 a ha, ofInt_i64 b hb, IntKind.wrap_i64]
  omega
theorem i64_xor_nat (a b : Nat) (ha : a < 9223372036854775808) (hb : b < 9223372036854775808) : bits .xor .i64 (a : Int) (b : Int) = ((a ^^^ b : Nat) : Int) := by
  have hx : a ^^^ b < 2 ^ 63 := Nat.xor_lt_two_pow (by omega) (by omega)
  show IntKind.i64.wrap ((BitVec.ofInt 64 (a : Int) ^^^ BitVec.ofInt 64 (b : Int)).toNat : Int) = _
  rw [BitVec.toNat_xor, ofInt_i64 a ha, ofInt_i64 b hb, IntKind.wrap_i64]
  omega

/-- Block g is a reader of the bytes bs that has read p times. -/
structure RdrX (w : World) (g : Nat) (A : Option Addr) (c : Nat) (bs : List Int) (p : Nat) : Prop where
  blk : Blk w g 104 #[.slice A bs.length c, .int .i64 p]
  rd : Rd w A (bs.map (.int .u8))
  byte : ∀ b ∈ bs, 0 ≤ b ∧ b ≤ 255
  len : bs.length ≤ 2000
  lt : ∀ b off, A = some ⟨b, off, none⟩ → 0 < bs.length → b < g
section
variable {w w' : World} {g c p : Nat} {A : Option Addr} {bs : List Int}
theorem RdrX.chg {S : Nat → Prop} (h : RdrX w g A c bs p) (hc : Chg S w w') (hS : ∀ k, k ≤ g → ¬ S k) : RdrX w' g A c bs p := by
  obtain ⟨h1, h2, h3, h4, h6⟩ := h
  refine ⟨h1.keep (hc.block g h1.lt (hS g (Nat.le_refl _))), fun h0 => ?_, h3, h4, h6⟩
  obtain ⟨b, off, hA, hb, hcell⟩ := h2 h0
  have hbg : b < g := h6 b off hA (by simpa using h0)
  exact ⟨b, off, hA, Nat.lt_of_lt_of_le hb hc.size, fun j u hu => (World.cell?_of_block (hc.block b hb (hS b (by omega)))).trans (hcell j u hu)⟩
theorem RdrX.new (h : RdrX w g A c bs p) (hb : Below w.heap.size w w') : RdrX w' g A c bs p := ⟨h.blk.new_ hb, h.rd.new hb, h.byte, h.len, h.lt⟩
theorem RdrX.alloc (h : RdrX w g A c bs p) (o : Obj) : RdrX (w.alloc o) g A c bs p := h.new ((Below.refl _ _).alloc (Nat.le_refl _) o)
theorem RdrX.drew (h : RdrX w g A c bs p) : RdrX w.drew g A c bs p := ⟨h.blk, h.rd, h.byte, h.len, h.lt⟩
theorem RdrX.drewN (h : RdrX w g A c bs p) (k : Nat) : RdrX (w.drewN k) g A c bs p := ⟨h.blk, h.rd, h.byte, h.len, h.lt⟩
theorem RdrX.step (h : RdrX w g A c bs p) : RdrX (w.setCell ⟨g, 1, none⟩ (.int .i64 ((p : Int) + 1))) g A c bs (p + 1) := by
  refine ⟨?_, fun h0 => ?_, h.byte, h.len, h.lt⟩
  · have := h.blk.set_ 1 (.int .i64 ((p : Int) + 1))
    simpa using this
  · obtain ⟨b, off, hA, hb, hc⟩ := h.rd h0
    have hbg : b < g := h.lt b off hA (by simpa using h0)
    exact ⟨b, off, hA, by simpa [World.setCell] using hb, fun j u hu => by rw [World.cell?_setCell_other w ⟨g, 1, none⟩ ⟨b, off + j, none⟩ _ (fun e => by injection e; omega)]; exact hc j u hu⟩
theorem RdrX.step_chg : Chg (fun k => k = g) w (w.setCell ⟨g, 1, none⟩ (.int .i64 ((p : Int) + 1))) := Chg.setCell (S := fun k => k = g) (p := ⟨g, 1, none⟩) (Chg.refl _ _) (.inl rfl) _
end
/-- Block g is a reader that has read at most N times. -/
def Rdr (w : World) (g N : Nat) : Prop := ∃ (A : Option Addr) (c : Nat) (bs : List Int) (p : Nat), RdrX w g A c bs p ∧ p ≤ N
theorem Rdr.lt {w : World} {g N : Nat} (h : Rdr w g N) : g < w.heap.size := by
  obtain ⟨_, _, _, _, hb, _⟩ := h
  exact hb.blk.lt
theorem Rdr.more {w : World} {g N M : Nat} (h : Rdr w g N) (hM : N ≤ M) : Rdr w g M := by
  obtain ⟨A, c, bs, p, h1, h5⟩ := h
  exact ⟨A, c, bs, p, h1, by omega⟩
theorem Rdr.new {w w' : World} {g N : Nat} (h : Rdr w g N) (hb : Below w.heap.size w w') : Rdr w' g N := by
  obtain ⟨A, c, bs, p, h1, h5⟩ := h
  exact ⟨A, c, bs, p, h1.new hb, h5⟩
theorem Rdr.drew {w : World} {g N : Nat} (h : Rdr w g N) : Rdr w.drew g N := by
  obtain ⟨A, c, bs, p, h1, h5⟩ := h
  exact ⟨A, c, bs, p, h1.drew, h5⟩
theorem Rdr.drewN {w : World} {g N : Nat} (h : Rdr w g N) (k : Nat) : Rdr (w.drewN k) g N := by
  obtain ⟨A, c, bs, p, h1, h5⟩ := h
  exact ⟨A, c, bs, p, h1.drewN k, h5⟩
theorem Rdr.alloc {w : World} {g N : Nat} (h : Rdr w g N) (o : Obj) : Rdr (w.alloc o) g N := h.new ((Below.refl _ _).alloc (Nat.le_refl _) o)
theorem Rdr.chg {w w' : World} {g N : Nat} {S : Nat → Prop} (h : Rdr w g N) (hc : Chg S w w') (hS : ∀ k, k ≤ g → ¬ S k) : Rdr w' g N := by
  obtain ⟨A, c, bs, p, h1, h5⟩ := h
  exact ⟨A, c, bs, p, h1.chg hc hS, h5⟩
/-- what is drawn: the number that 'pick' gives -/
def mixX (bs : List Int) (p : Nat) : Nat := (bs.getD (p % bs.length) 0 * 131 + bs.getD ((p * 7 + 3) % bs.length) 0 * 1117 + (p : Int) * 29 + ((p / bs.length : Nat) : Int) * 53).toNat
def pickV (bs : List Int) (p : Nat) (n : Int) : Nat :=
  if bs.length = 0 then 0 else if p < bs.length then (bs.getD p 0 % n).toNat else (((mixX bs p ^^^ (mixX bs p / 64) : Nat) : Int) % n).toNat
theorem pickV_lt (bs : List Int) (p : Nat) (n : Int) (hn : 1 ≤ n) : (pickV bs p n : Int) < n := by
  unfold pickV
  split
  · omega
  · split
    · rw [Int.toNat_of_nonneg (Int.emod_nonneg _ (by omega))]
      exact Int.emod_lt_of_pos _ (by omega)
    · rw [Int.toNat_of_nonneg (Int.emod_nonneg _ (by omega))]
      exact Int.emod_lt_of_pos _ (by omega)

theorem open_any (A : Option Addr) (c : Nat) (bs : List Int) (w : World) (h : Rd w A (bs.map (.int .u8))) (hw : ∀ b ∈ bs, 0 ≤ b ∧ b ≤ 255) (hc : bs.length ≤ c) (hm : c ≤ maxLen) :
    Calls Tryz.prog 33 #[.slice A bs.length c] w fun e w' => e = .returned (.pointer (some ⟨w.heap.size, 0, none⟩)) ∧ Rdr w' w.heap.size 0 ∧ Below w.heap.size w w' := by
  simp only [maxLen] at hm
  by_cases hl : bs.length ≤ 2000
  · have hl2 : ¬ (2000 : Int) < (bs.length : Int) := by omega
    go_enter Tryz.func33, Tryz.ntmps33
    go_wp2
    go_ret
    refine ⟨rfl, ⟨A, c, bs, 0, ⟨Blk.new _ _ _, h.alloc _, hw, hl, fun b off hA h0 => ?_⟩, Nat.le_refl _⟩, (Below.refl _ _).alloc (Nat.le_refl _) _⟩
    obtain ⟨b', off', hA', hb', _⟩ := h (by simpa using h0)
    rw [hA] at hA'
    injection hA' with hA'
    injection hA' with h1
    omega
  · have hl2 : (2000 : Int) < (bs.length : Int) := by omega
    have hl3 : 2000 < bs.length := by omega
    go_enter Tryz.func33, Tryz.ntmps33
    go_wp2
    go_ret
    have hlen : (bs.take 2000).length = 2000 := by simp; omega
    refine ⟨rfl, ⟨A, c, bs.take 2000, 0, ⟨by rw [hlen]; exact Blk.new _ _ _, ?_, fun b hb => hw b (List.mem_of_mem_take hb), by omega, fun b off hA h0 => ?_⟩, Nat.le_refl _⟩, (Below.refl _ _).alloc (Nat.le_refl _) _⟩
    · have := (h.take 2000).alloc (.cells #[.slice A 2000 c, .int .i64 0] 104)
      rw [← List.map_take] at this
      exact this
    · obtain ⟨b', off', hA', hb', _⟩ := h (by simp; omega)
      rw [hA] at hA'
      injection hA' with hA'
      injection hA' with h1
      omega

theorem pick_x (g c p : Nat) (A : Option Addr) (bs : List Int) (n : Int) (w : World) (h : RdrX w g A c bs p) (hN : p ≤ 1000000) (hn : 1 ≤ n) (hn2 : n ≤ 1000000) :
    Calls Tryz.prog 36 #[.pointer (some ⟨g, 0, none⟩), .int .i64 n] w fun e w' => e = .returned (.int .i64 (pickV bs p n)) ∧ ∃ m, (w.setCell ⟨g, 1, none⟩ (.int .i64 ((p : Int) + 1))).drewN m = w' := by
  have hrd1 := h.step.rd
  obtain ⟨hblk, hrd, hbs, hlen, hlt⟩ := h
  have c0 : w.cell? ⟨g, 0, none⟩ = some (.slice A bs.length c) := by rw [hblk.cell]; rfl
  have c1 : w.cell? ⟨g, 1, none⟩ = some (.int .i64 p) := by rw [hblk.cell]; rfl
  have z1 : w.frozen? ⟨g, 1, none⟩ = false := hblk.frozen 1
  have hn1 : ¬ n < 1 := by omega
  by_cases hz : bs.length = 0
  · have hd : ((bs.length : Int) == 0) = true := by simp [hz]
    have HV := hide (show pickV bs p n = 0 by unfold pickV; rw [if_pos hz])
    clear hz hbs hrd1
    go_enter Tryz.func36, Tryz.ntmps36
    go_wp2
    go_ret
    exact ⟨by rw [unhide HV]; rfl, 0, rfl⟩
  · have hd : ((bs.length : Int) == 0) = false := by rw [beq_eq_false_iff_ne]; omega
    by_cases hpl : p < bs.length
    · have HV := hide (show pickV bs p n = (bs[p] % n).toNat by unfold pickV; rw [if_neg hz, if_pos hpl]; simp [hpl])
      obtain ⟨b, off, rfl, hbb, hc⟩ := hrd1 (by rw [List.length_map]; omega)
      have hc1 := hc p (.int .u8 bs[p]) (by simp [hpl])
      have hb := hbs bs[p] (List.getElem_mem hpl)
      clear hbs hc hrd
      generalize bs[p] = x at *
      go_enter Tryz.func36, Tryz.ntmps36
      go_wp2
      go_ret
      have hm0 := Int.emod_nonneg x (show n ≠ 0 by omega)
      exact ⟨reti (by rw [unhide HV, Int.toNat_of_nonneg hm0]), 0, rfl⟩
    · have hL : 0 < bs.length := by omega
      have HV := hide (show pickV bs p n = (((mixX bs p ^^^ (mixX bs p / 64) : Nat) : Int) % n).toNat by unfold pickV; rw [if_neg hz, if_neg hpl])
      obtain ⟨b, off, rfl, hbb, hc⟩ := hrd1 (by rw [List.length_map]; omega)
      have q1 := Nat.mod_lt p hL
      have q2 := Nat.mod_lt (p * 7 + 3) hL
      have HX := hide (show mixX bs p = (bs[p % bs.length] * 131 + bs[(p * 7 + 3) % bs.length] * 1117 + (p : Int) * 29 + ((p / bs.length : Nat) : Int) * 53).toNat by unfold mixX; simp [q1, q2])
      have hc1 := hc (p % bs.length) (.int .u8 bs[p % bs.length]) (by simp [q1])
      have hc2 := hc ((p * 7 + 3) % bs.length) (.int .u8 bs[(p * 7 + 3) % bs.length]) (by simp [q2])
      have hb1 := hbs bs[p % bs.length] (List.getElem_mem q1)
      have hb2 := hbs bs[(p * 7 + 3) % bs.length] (List.getElem_mem q2)
      clear hbs hc hrd
      generalize bs[p % bs.length] = x at *
      generalize bs[(p * 7 + 3) % bs.length] = y at *
      have t1 : (p : Int).tmod (bs.length : Int) = ((p % bs.length : Nat) : Int) := by rw [Int.tmod_eq_emod_of_nonneg (by omega)]; rfl
      have t2 : ((p : Int) * 7 + 3).tmod (bs.length : Int) = (((p * 7 + 3) % bs.length : Nat) : Int) := by rw [Int.tmod_eq_emod_of_nonneg (by omega)]; rfl
      have t3 : (p : Int).tdiv (bs.length : Int) = ((p / bs.length : Nat) : Int) := by rw [Int.tdiv_eq_ediv_of_nonneg (by omega)]; rfl
      generalize hr1 : p % bs.length = r1 at *
      generalize hr2 : (p * 7 + 3) % bs.length = r2 at *
      generalize hr3 : p / bs.length = r3 at *
      have hr3b : r3 ≤ p := by rw [← hr3]; exact Nat.div_le_self _ _
      clear hr1 hr2 hr3
      have i1 : (r1 : Int) < (bs.length : Int) := by omega
      have i2 : (r2 : Int) < (bs.length : Int) := by omega
      have i3 : (0 : Int) ≤ (r1 : Int) := by omega
      have i4 : (0 : Int) ≤ (r2 : Int) := by omega
      have w1 : IntKind.i64.wrap ((p : Int) + 1) = (p : Int) + 1 := Go.IntWalk.i64_in _ (by omega)
      have w2 : IntKind.i64.wrap ((p : Int) + 1 - 1) = (p : Int) := by rw [show (p : Int) + 1 - 1 = p by omega]; exact Go.IntWalk.i64_in _ (by omega)
      go_enter Tryz.func36, Tryz.ntmps36
      go_wp2
      go_quiet (fail)
      go_wp2
      go_ret
      obtain ⟨X, hX⟩ : ∃ X : Nat, x * 131 + y * 1117 + (p : Int) * 29 + (r3 : Int) * 53 = (X : Int) := ⟨(x * 131 + y * 1117 + (p : Int) * 29 + (r3 : Int) * 53).toNat, by omega⟩
      have hXb : X < 1000000000 := by omega
      have hmx : mixX bs p = X := by rw [unhide HX, hX]; rfl
      have hx1 : bits BinOp.xor IntKind.i64 (x * 131 + y * 1117 + (p : Int) * 29 + (r3 : Int) * 53) ((x * 131 + y * 1117 + (p : Int) * 29 + (r3 : Int) * 53) / 64) = ((X ^^^ (X / 64) : Nat) : Int) := by
        rw [hX, show ((X : Int) / 64) = ((X / 64 : Nat) : Int) from rfl, i64_xor_nat X (X / 64) (by omega) (by omega)]
      have hv : pickV bs p n = (((X ^^^ (X / 64) : Nat) : Int) % n).toNat := by rw [unhide HV, hmx]
      generalize X ^^^ (X / 64) = Y at *
      have hx2 : (bits BinOp.xor IntKind.i64 (x * 131 + y * 1117 + (p : Int) * 29 + (r3 : Int) * 53) ((x * 131 + y * 1117 + (p : Int) * 29 + (r3 : Int) * 53) / 64)).tmod n = (Y : Int) % n := by
        rw [hx1, Int.tmod_eq_emod_of_nonneg (by omega)]
      have hm0 := Int.emod_nonneg (Y : Int) (show n ≠ 0 by omega)
      exact ⟨reti (by rw [hv, Int.toNat_of_nonneg hm0]; exact hx2), nq, rfl⟩
/-- 'pick' for a region that draws its order: rules on what is left as it was -/
theorem pick_q (g c p : Nat) (A : Option Addr) (bs : List Int) (n : Int) (w : World) (h : RdrX w g A c bs p) (hN : p ≤ 1000000) (hn : 1 ≤ n) (hn2 : n ≤ 1000000) :
    Calls Tryz.prog 36 #[.pointer (some ⟨g, 0, none⟩), .int .i64 n] w fun e w' => e = .returned (.int .i64 (pickV bs p n)) ∧ RdrX w' g A c bs (p + 1) ∧ (∀ b o, b ≠ g → w'.cell? ⟨b, o, none⟩ = w.cell? ⟨b, o, none⟩) ∧ w'.heap.size = w.heap.size ∧ Chg (fun k => k = g) w w' := by
  refine (pick_x g c p A bs n w h hN hn hn2).mono ?_
  rintro e w' ⟨rfl, m, rfl⟩
  refine ⟨rfl, h.step.drewN m, fun b o hb => ?_, by simp [World.setCell, World.drewN], RdrX.step_chg.drewN m⟩
  show (w.setCell ⟨g, 1, none⟩ (.int .i64 ((p : Int) + 1))).cell? ⟨b, o, none⟩ = _
  rw [World.cell?_setCell_other w ⟨g, 1, none⟩ ⟨b, o, none⟩ _ (fun e => by injection e; omega)]
theorem bchg {B g : Nat} {a w w' : World} (h : Below B a w) (hc : Chg (fun k => k = g) w w') (hB : B ≤ g) (hs : B ≤ w.heap.size) : Below B a w' := h.trans (hc.below (fun k hk => by omega) hs)
theorem pick_any (g N : Nat) (n : Int) (w : World) (h : Rdr w g N) (hN : N ≤ 1000000) (hn : 1 ≤ n) (hn2 : n ≤ 1000000) :
    Calls Tryz.prog 36 #[.pointer (some ⟨g, 0, none⟩), .int .i64 n] w fun e w' => ∃ v : Nat, (v : Int) < n ∧ e = .returned (.int .i64 v) ∧ Rdr w' g (N + 1) ∧ Chg (fun k => k = g) w w' := by
  obtain ⟨A, c, bs, p, hx, hp⟩ := h
  refine (pick_x g c p A bs n w hx (by omega) hn hn2).mono ?_
  rintro e w' ⟨rfl, m, rfl⟩
  exact ⟨_, pickV_lt bs p n hn, rfl, ⟨A, c, bs, p + 1, hx.step.drewN m, by omega⟩, RdrX.step_chg.drewN m⟩
theorem odd_any (g N : Nat) (n : Int) (w : World) (h : Rdr w g N) (hN : N ≤ 1000000) (hn : 0 ≤ n) (hn2 : n ≤ 1000000) :
    Calls Tryz.prog 50 #[.pointer (some ⟨g, 0, none⟩), .int .i64 n] w fun e w' => ∃ b : Bool, e = .returned (.bool b) ∧ (n = 0 → b = false) ∧ Rdr w' g (N + 1) ∧ Chg (fun k => k = g) w w' := by
  by_cases h0 : n = 0
  · have hd : decide ((0 : Int) < n) = false := by simp; omega
    have H0 := hide h0
    clear h0
    go_enter Tryz.func50, Tryz.ntmps50
    go_wp2
    go_ret
    exact ⟨false, rfl, fun _ => rfl, h.more (by omega), Chg.refl _ _⟩
  · have hd : (0 : Int) < n := by omega
    have H0 := hide h0
    clear h0
    go_enter Tryz.func50, Tryz.ntmps50
    go_wp2_with fail
    refine (pick_any g N n w h hN (by omega) hn2).mono ?_
    rintro e w1 ⟨v, hv, rfl, hr, hc⟩
    go_wp2
    go_ret
    exact ⟨_, rfl, fun h => absurd h (unhide H0), hr, hc⟩
/-- a literal of numbers that the call has laid, read behind reads of the reader -/
theorem lit_int {w w' : World} {S : Nat → Prop} {t : TypeId} (ns : List Int) (hc : Chg S (w.alloc (.cells (ns.map (Value.int .i64)).toArray t)) w') (hS : ¬ S w.heap.size) {i : Nat} (hi : i < ns.length) :
    ∃ x, x ∈ ns ∧ w'.cell? ⟨w.heap.size, i, none⟩ = some (.int .i64 x) := by
  refine ⟨ns[i], List.getElem_mem hi, hc.cell (p := ⟨w.heap.size, i, none⟩) ?_ hS⟩
  rw [cell_of_row _ w.heap.size i _ t (0, 0) (heap_alloc_new w _)]
  simp [hi]
theorem rd_chg {w w' : World} {S : Nat → Prop} {A : Option Addr} {xs : List Value} (h : Rd w A xs) (hc : Chg S w w') (hS : ∀ b off, A = some ⟨b, off, none⟩ → ¬ S b) : Rd w' A xs := fun h0 => by
  obtain ⟨b, off, hA, hb, hcell⟩ := h h0
  exact ⟨b, off, hA, Nat.lt_of_lt_of_le hb hc.size, fun j u hu => (World.cell?_of_block (hc.block b hb (hS b off hA))).trans (hcell j u hu)⟩
theorem Blk.chg {S : Nat → Prop} {w w' : World} {g : Nat} {t : TypeId} {cs : Array Value} (h : Blk w g t cs) (hc : Chg S w w') (hS : ¬ S g) : Blk w' g t cs := h.keep (hc.block g h.lt hS)
theorem Blk.far_ {w : World} {g : Nat} {t : TypeId} {cs : Array Value} (h : Blk w g t cs) {p : Addr} (hp : p.block ≠ g) (u : Value) : Blk (w.setCell p u) g t cs := (Below.heap_setCell _ _ _ _ (fun e => hp e.symm)).trans h
theorem rd_blk {w : World} {q : Nat} {t : TypeId} {cs : Array Value} (h : Blk w q t cs) : Rd w (some ⟨q, 0, none⟩) cs.toList := fun h0 => by
  refine ⟨q, 0, rfl, h.lt, fun j u hu => ?_⟩
  rw [h.cell]
  simpa using hu
def rdrR (g N0 : Nat) (m : Nat) (w : World) : Prop := ∃ N, N + m ≤ N0 ∧ Rdr w g N
theorem rdrR_use {g N0 m k : Nat} {w : World} (h : rdrR g N0 (m + k) w) : ∃ N, N + m + k ≤ N0 ∧ Rdr w g N := by
  obtain ⟨N, h1, h2⟩ := h
  exact ⟨N, by omega, h2⟩
end Go.Proofs.YtefdhlfljpppfaaGreat
