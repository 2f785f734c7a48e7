/- Trees of blocks as data, and by value in the laws: to, eq, sz, mark. -/
import Derived.Test.YtmpdopjailomlaaGreatBkM
import Derived.Test.YtmpdopjailomlaaGreatFlatEntry
import Derived.Test.YtmpdopjailomlaaGreatIntS
namespace Go.Proofs.YtmpdopjailomlaaGreat
open Go.RowKit
set_option linter.unusedVariables false
set_option linter.unusedSimpArgs false

structure Tr where
  base : List Ent
  blocks : List Bk
  before : List Int
deriving DecidableEq
def trA (t : Tr) (A1 : Option Addr) (c1 : Nat) (A2 : Option Addr) (c2 : Nat) (A3 : Option Addr) (c3 : Nat) : Array Value := #[.slice A1 t.base.length c1, .slice A2 t.blocks.length c2, .slice A3 t.before.length c3]
/-- how a tree reads -/
structure TrR (w : World) (t : Tr) (A1 A2 A3 : Option Addr) : Prop where
  b1 : Rd w A1 (t.base.flatMap encE)
  b2 : RdD bkR (fun _ => True) w A2 t.blocks
  b3 : Rd w A3 (t.before.map (.int .i64))
theorem TrR.new {w w' : World} {t : Tr} {A1 A2 A3 : Option Addr} (h : TrR w t A1 A2 A3) (hb : Below w.heap.size w w') : TrR w' t A1 A2 A3 := ⟨h.b1.new hb, h.b2.new bk_good hb, h.b3.new hb⟩
theorem TrR.drewN {w : World} {t : Tr} {A1 A2 A3 : Option Addr} (h : TrR w t A1 A2 A3) (n : Nat) : TrR (w.drewN n) t A1 A2 A3 := ⟨h.b1.drewN n, h.b2.drewN bk_good n, h.b3.drewN n⟩
/-- a tree of the call's own -/
structure TrO (w : World) (base : Nat) (t : Tr) (A1 : Option Addr) (c1 : Nat) (A2 : Option Addr) (c2 : Nat) (A3 : Option Addr) (c3 : Nat) (fp : List Nat) : Prop where
  o1 : w.ownsRow base 99 2 (.slice A1 t.base.length c1) t.base.length (t.base.flatMap encE)
  o2 : OwnD bkO 69 6 w A2 c2 t.blocks fp
  o3 : w.ownsRow base 3 1 (.slice A3 t.before.length c3) t.before.length (t.before.map (.int .i64))
  ge : ∀ k ∈ fp, base ≤ k
  a12 : ∀ p, A1 = some ⟨p, 0, none⟩ → p ∉ fp
  a13 : ∀ p, A1 = some ⟨p, 0, none⟩ → A3 ≠ some ⟨p, 0, none⟩
  a23 : ∀ p, A3 = some ⟨p, 0, none⟩ → p ∉ fp
def TrS (A1 A3 : Option Addr) (fp : List Nat) (q : Nat) : Prop := A1 = some ⟨q, 0, none⟩ ∨ q ∈ fp ∨ A3 = some ⟨q, 0, none⟩
section
variable {w w' : World} {base : Nat} {t : Tr} {A1 : Option Addr} {c1 : Nat} {A2 : Option Addr} {c2 : Nat} {A3 : Option Addr} {c3 : Nat} {fp : List Nat}
theorem TrO.new (h : TrO w base t A1 c1 A2 c2 A3 c3 fp) (hb : Below w.heap.size w w') : TrO w' base t A1 c1 A2 c2 A3 c3 fp := ⟨own_new h.o1 hb, h.o2.new bkO_good hb, own_new h.o3 hb, h.ge, h.a12, h.a13, h.a23⟩
theorem TrO.rng (h : TrO w base t A1 c1 A2 c2 A3 c3 fp) : ∀ q, TrS A1 A3 fp q → base ≤ q ∧ q < w.heap.size := fun q hq => by
  rcases hq with hq | hq | hq
  · exact own_rng h.o1 q hq
  · exact ⟨h.ge q hq, h.o2.lt bkO_good q hq⟩
  · exact own_rng h.o3 q hq
theorem TrO.chg {S : Nat → Prop} (h : TrO w base t A1 c1 A2 c2 A3 c3 fp) (hc : Chg S w w') (hS : ∀ q, TrS A1 A3 fp q → ¬ S q) : TrO w' base t A1 c1 A2 c2 A3 c3 fp :=
  ⟨own_chg h.o1 hc fun q hq e => hS q (.inl hq) e, h.o2.keep bkO_good fun q hq hqw => hc.block q hqw (hS q (.inr (.inl hq))), own_chg h.o3 hc fun q hq e => hS q (.inr (.inr hq)) e, h.ge, h.a12, h.a13, h.a23⟩
theorem TrO.drewN (h : TrO w base t A1 c1 A2 c2 A3 c3 fp) (n : Nat) : TrO (w.drewN n) base t A1 c1 A2 c2 A3 c3 fp :=
  ⟨own_drewN h.o1 n, h.o2.keep bkO_good (w' := w.drewN n) fun _ _ _ => rfl, own_drewN h.o3 n, h.ge, h.a12, h.a13, h.a23⟩
theorem TrO.rd (h : TrO w base t A1 c1 A2 c2 A3 c3 fp) : TrR w t A1 A2 A3 := ⟨own_rd h.o1, h.o2.rd bkO_good bk_good (fun _ _ => trivial), own_rd h.o3⟩
end
theorem info_tr : (Tryz.prog.info? 31).map (·.size) = some 3 := by kernel_rfl
set_option maxRecDepth 100000 in
set_option maxHeartbeats 1000000 in
theorem toBlockTree_any (t : Tr) (A1 : Option Addr) (c1 : Nat) (A2 : Option Addr) (c2 : Nat) (A3 : Option Addr) (c3 : Nat) (w : World) (h : TrR w t A1 A2 A3) (hb1 : t.base.length ≤ 1048576) (hb2 : t.blocks.length ≤ 1048576) (hbs : ∀ x ∈ t.blocks, x.list.length ≤ 1048576) (hb3 : t.before.length ≤ 1048576) :
    Calls Tryz.prog 9 #[.agg (trA t A1 c1 A2 c2 A3 c3)] w fun e w' => ∃ B1 d1 B2 d2 B3 d3 fp, e = .returned (.agg (trA t B1 d1 B2 d2 B3 d3)) ∧ TrO w' w.heap.size t B1 d1 B2 d2 B3 d3 fp ∧ Below w.heap.size w w' := by
  have HBS := hide hbs
  clear hbs
  have k0 := ((Blk.new w 26 (trA t A1 c1 A2 c2 A3 c3)).alloc (.cells #[.slice none 0 0, .slice none 0 0, .slice none 0 0] 31)).alloc (.cells #[.slice none 0 0, .slice none 0 0, .slice none 0 0] 31)
  have k1 := (Blk.new (w.alloc (.cells (trA t A1 c1 A2 c2 A3 c3) 26)) 31 #[.slice none 0 0, .slice none 0 0, .slice none 0 0]).alloc (.cells #[.slice none 0 0, .slice none 0 0, .slice none 0 0] 31)
  have k2 := Blk.new ((w.alloc (.cells (trA t A1 c1 A2 c2 A3 c3) 26)).alloc (.cells #[.slice none 0 0, .slice none 0 0, .slice none 0 0] 31)) 31 #[.slice none 0 0, .slice none 0 0, .slice none 0 0]
  have hB : Below w.heap.size w (((w.alloc (.cells (trA t A1 c1 A2 c2 A3 c3) 26)).alloc (.cells #[.slice none 0 0, .slice none 0 0, .slice none 0 0] 31)).alloc (.cells #[.slice none 0 0, .slice none 0 0, .slice none 0 0] 31)) := (((Below.refl _ _).alloc (Nat.le_refl _) _).alloc (by simp) _).alloc (by simp; omega) _
  simp only [World.size_alloc, trA] at k0 k1 k2 hB ⊢
  go_enter Tryz.func9, Tryz.ntmps9
  go_wp2_with fail
  refine (toEntryS_any A1 c1 t.base _ hb1 (h.b1.new hB)).mono ?_
  rintro e v1 ⟨B1, d1, rfl, o1, b1⟩
  have hs1 := b1.size
  simp only [World.size_alloc] at o1 hs1
  have HL1 := hide (own_rng o1)
  replace hB := bthen hB b1
  replace k0 := k0.new_ b1
  replace k1 := k1.new_ b1
  replace k2 := k2.new_ b1
  clear b1
  have hl2 := k2.lt
  have z1 : v1.cell? ⟨w.heap.size, 1, none⟩ = some _ := k0.cell 1
  have y0 : v1.cell? ⟨w.heap.size + 1 + 1, 0, none⟩ = some _ := k2.cell 0
  have q0 : v1.frozen? ⟨w.heap.size + 1 + 1, 0, none⟩ = false := k2.frozen 0
  have hc := (Chg.refl (fun k => k = w.heap.size + 1 + 1) v1).setCell (S := fun k => k = w.heap.size + 1 + 1) (p := ⟨w.heap.size + 1 + 1, 0, none⟩) (.inl rfl) (.slice B1 t.base.length d1)
  replace k0 := k0.chg hc (by omega)
  replace k1 := k1.chg hc (by omega)
  replace k2 := k2.set_ 0 (.slice B1 t.base.length d1)
  replace o1 := own_chg o1 hc (fun g hA e => by have := unhide HL1 g hA; omega)
  replace hB := hB.trans (hc.below (fun k hk e => by omega) hB.size)
  have zz1 := k0.cell 1
  clear hc
  go_wp2_with fail
  generalize (v1.setCell ⟨w.heap.size + 1 + 1, 0, none⟩ (.slice B1 t.base.length d1)) = w1 at *
  clear z1 y0 q0 hl2
  refine (toBlockS_any A2 c2 t.blocks w1 hb2 _ (h.b2.new bk_good hB) (unhide HBS)).mono ?_
  rintro e v2 ⟨B2, d2, fp, rfl, o2, hge, b2⟩
  have hr1 := own_rng o1
  have hk1 := k1.lt
  have hk2 := k2.lt
  have hs2 := b2.size
  have HG := hide (fun q (hq : q ∈ fp) => (⟨hge q hq, o2.lt bkO_good q hq⟩ : w1.heap.size ≤ q ∧ q < v2.heap.size))
  replace hB := bthen hB b2
  replace k0 := k0.new_ b2
  replace k1 := k1.new_ b2
  replace k2 := k2.new_ b2
  replace o1 := own_new o1 b2
  have hl2 := k2.lt
  have z2 : v2.cell? ⟨w.heap.size, 2, none⟩ = some _ := k0.cell 2
  have y0 : v2.cell? ⟨w.heap.size + 1 + 1, 1, none⟩ = some _ := k2.cell 1
  have q0 : v2.frozen? ⟨w.heap.size + 1 + 1, 1, none⟩ = false := k2.frozen 1
  have hc := (Chg.refl (fun k => k = w.heap.size + 1 + 1) v2).setCell (S := fun k => k = w.heap.size + 1 + 1) (p := ⟨w.heap.size + 1 + 1, 1, none⟩) (.inl rfl) (.slice B2 t.blocks.length d2)
  replace k0 := k0.chg hc (by omega)
  replace k1 := k1.chg hc (by omega)
  replace k2 := k2.set_ 1 (.slice B2 t.blocks.length d2)
  replace o1 := own_chg o1 hc (fun g hA e => by have := unhide HL1 g hA; omega)
  replace o2 := o2.keep bkO_good (fun q hq hqw => hc.block q hqw (fun e => by have := unhide HG q hq; omega))
  replace hB := hB.trans (hc.below (fun k hk e => by omega) hB.size)
  have hcs := hc.size
  clear hc b2
  go_wp2_with fail
  generalize (v2.setCell ⟨w.heap.size + 1 + 1, 1, none⟩ (.slice B2 t.blocks.length d2)) = w2 at *
  clear z2 y0 q0 hl2 zz1
  refine (toIntS_any A3 c3 t.before w2 hb3 (h.b3.new hB)).mono ?_
  rintro e v3 ⟨B3, d3, rfl, o3, b3⟩
  have HL3 := hide (own_rng o3)
  have hs3 := b3.size
  replace hB := bthen hB b3
  replace k1 := k1.new_ b3
  replace k2 := k2.new_ b3
  replace o1 := own_new o1 b3
  replace o2 := o2.new bkO_good b3
  clear b3 k0
  have hl2 := k2.lt
  have hl1 := k1.lt
  have e0 : v3.cell? ⟨w.heap.size + 1 + 1, 0, none⟩ = some _ := k2.cell 0
  have e1 : v3.cell? ⟨w.heap.size + 1 + 1, 1, none⟩ = some _ := k2.cell 1
  have e2 : v3.cell? ⟨w.heap.size + 1 + 1, 2, none⟩ = some _ := k2.cell 2
  have q2 : v3.frozen? ⟨w.heap.size + 1 + 1, 2, none⟩ = false := k2.frozen 2
  have y0 : v3.cell? ⟨w.heap.size + 1, 0, none⟩ = some _ := k1.cell 0
  have y1 : v3.cell? ⟨w.heap.size + 1, 1, none⟩ = some _ := k1.cell 1
  have y2 : v3.cell? ⟨w.heap.size + 1, 2, none⟩ = some _ := k1.cell 2
  have p0 : v3.frozen? ⟨w.heap.size + 1, 0, none⟩ = false := k1.frozen 0
  have p1 : v3.frozen? ⟨w.heap.size + 1, 1, none⟩ = false := k1.frozen 1
  have p2 : v3.frozen? ⟨w.heap.size + 1, 2, none⟩ = false := k1.frozen 2
  have K1 := hide k1
  clear k1 k2
  go_wp2
  have kb := (((Blk.far_ (unhide K1) (p := ⟨w.heap.size + 1 + 1, 2, none⟩) (by simp only []; omega) (.slice B3 t.before.length d3)).set_ 0 (.slice B1 t.base.length d1)).set_ 1 (.slice B2 t.blocks.length d2)).set_ 2 (.slice B3 t.before.length d3)
  have hc := ((((Chg.refl (fun k => k = w.heap.size + 1 + 1 ∨ k = w.heap.size + 1) v3).setCell (S := fun k => k = w.heap.size + 1 + 1 ∨ k = w.heap.size + 1) (p := ⟨w.heap.size + 1 + 1, 2, none⟩) (by simp) (.slice B3 t.before.length d3)).setCell (S := fun k => k = w.heap.size + 1 + 1 ∨ k = w.heap.size + 1) (p := ⟨w.heap.size + 1, 0, none⟩) (by simp) (.slice B1 t.base.length d1)).setCell (S := fun k => k = w.heap.size + 1 + 1 ∨ k = w.heap.size + 1) (p := ⟨w.heap.size + 1, 1, none⟩) (by simp) (.slice B2 t.blocks.length d2)).setCell (S := fun k => k = w.heap.size + 1 + 1 ∨ k = w.heap.size + 1) (p := ⟨w.heap.size + 1, 2, none⟩) (by simp) (.slice B3 t.before.length d3)
  refine bodyPost_ret (v := .agg #[.slice B1 t.base.length d1, .slice B2 t.blocks.length d2, .slice B3 t.before.length d3]) (results_cell_row rfl _ _ (w.heap.size + 1) 31 #[.slice B1 t.base.length d1, .slice B2 t.blocks.length d2, .slice B3 t.before.length d3] (0, 0) _ rfl kb Tryz.underlying31 rfl info_tr) rfl ⟨B1, d1, B2, d2, B3, d3, fp, rfl, ?_, hB.trans (hc.below (fun k hk e => by omega) hB.size)⟩
  have hr3 := unhide HL3
  have hrG := unhide HG
  exact ⟨own_base (own_chg o1 hc (fun g hA e => by have := hr1 g hA; omega)) (by omega), o2.keep bkO_good (fun q hq hqw => hc.block q hqw (fun e => by have := hrG q hq; omega)), own_base (own_chg o3 hc (fun g hA e => by have := hr3 g hA; omega)) (by omega),
    fun k hk => by have := hrG k hk; omega, fun p hp hq => by have h1 := hr1 p hp; have h2 := hrG p hq; omega, fun p hp hq => by have h1 := hr1 p hp; have h2 := hr3 p hq; omega, fun p hp hq => by have h1 := hr3 p hp; have h2 := hrG p hq; omega⟩
/-- what a tree takes in the count of sizes -/
def trTot (t : Tr) : Nat := t.base.length + (t.blocks.length + bkTot t.blocks) + t.before.length
set_option maxHeartbeats 1000000 in
theorem szBlockTree_any (t : Tr) (A1 : Option Addr) (c1 : Nat) (A2 : Option Addr) (c2 : Nat) (A3 : Option Addr) (c3 : Nat) (l : Int) (w : World) (h : TrR w t A1 A2 A3) (hn1 : t.base.length ≤ 9223372036854775807) (hn2 : t.blocks.length ≤ 9223372036854775807) (hn3 : t.before.length ≤ 9223372036854775807) (h0 : 0 ≤ l) (h1 : l ≤ 1048576) :
    Calls Tryz.prog 7 #[.agg (trA t A1 c1 A2 c2 A3 c3), .int .i64 l] w fun e w' => e = .returned (.int .i64 (szL (trTot t) l)) ∧ Below w.heap.size w w' := by
  have hB : Below w.heap.size w (w.alloc (.cells (trA t A1 c1 A2 c2 A3 c3) 26)) := (Below.refl _ _).alloc (Nat.le_refl _) _
  have K0 := Blk.new w 26 (trA t A1 c1 A2 c2 A3 c3)
  have h2 := h.b2.new bk_good hB
  have HT := hide (show trTot t = t.base.length + (t.blocks.length + bkTot t.blocks) + t.before.length from rfl)
  simp only [trA] at K0 hB h2 ⊢
  by_cases g1 : (t.base.length : Int) ≤ l
  rotate_left
  · have HZ := hide (szL_no (n := trTot t) (l := l) (by have := unhide HT; omega))
    go_enter Tryz.func7, Tryz.ntmps7
    go_wp2_with fail
    refine (szEntryS_any A1 t.base.length c1 l _ hn1 (by omega) (by omega)).mono ?_
    rintro e w' ⟨rfl, rfl⟩
    rw [if_neg (by omega)]
    go_wp2
    go_ret
    exact ⟨reti (unhide HZ).symm, hB⟩
  have i1 : ¬ l - (t.base.length : Int) < 0 := by omega
  by_cases g2 : ((t.blocks.length + bkTot t.blocks : Nat) : Int) ≤ l - (t.base.length : Int)
  rotate_left
  · have HZ := hide (szL_no (n := trTot t) (l := l) (by have := unhide HT; omega))
    go_enter Tryz.func7, Tryz.ntmps7
    go_wp2_with fail
    refine (szEntryS_any A1 t.base.length c1 l _ hn1 (by omega) (by omega)).mono ?_
    rintro e w' ⟨rfl, rfl⟩
    rw [if_pos (by omega)]
    go_wp2_with fail
    refine (szBlockS_any A2 c2 t.blocks (l - (t.base.length : Int)) _ _ h2 hn2 (by omega) (by omega)).mono ?_
    rintro e w2 ⟨rfl, b2⟩
    rw [szL_no (by omega)]
    go_wp2
    go_ret
    exact ⟨reti (unhide HZ).symm, bthen hB b2⟩
  have i2 : ¬ l - (t.base.length : Int) - ((t.blocks.length + bkTot t.blocks : Nat) : Int) < 0 := by omega
  by_cases g3 : (t.before.length : Int) ≤ l - (t.base.length : Int) - ((t.blocks.length + bkTot t.blocks : Nat) : Int)
  rotate_left
  · have HZ := hide (szL_no (n := trTot t) (l := l) (by have := unhide HT; omega))
    go_enter Tryz.func7, Tryz.ntmps7
    go_wp2_with fail
    refine (szEntryS_any A1 t.base.length c1 l _ hn1 (by omega) (by omega)).mono ?_
    rintro e w' ⟨rfl, rfl⟩
    rw [if_pos (by omega)]
    go_wp2_with fail
    refine (szBlockS_any A2 c2 t.blocks (l - (t.base.length : Int)) _ _ h2 hn2 (by omega) (by omega)).mono ?_
    rintro e w2 ⟨rfl, b2⟩
    rw [szL_yes (by omega)]
    have z2 : w2.cell? ⟨w.heap.size, 2, none⟩ = some _ := (K0.new_ b2).cell 2
    have hbt : 0 ≤ ((t.blocks.length + bkTot t.blocks : Nat) : Int) := Int.natCast_nonneg _
    generalize ((t.blocks.length + bkTot t.blocks : Nat) : Int) = bt at *
    go_wp2_with fail
    refine (szIntS_any A3 t.before.length c3 (l - (t.base.length : Int) - bt) _ hn3 (by omega) (by omega)).mono ?_
    rintro e w' ⟨rfl, rfl⟩
    rw [if_neg (by omega)]
    go_wp2
    go_ret
    exact ⟨reti (unhide HZ).symm, bthen hB b2⟩
  have HZ := hide (szL_yes (n := trTot t) (l := l) (by have := unhide HT; omega))
  have HTC := hide (show l - ((trTot t : Nat) : Int) = l - (t.base.length : Int) - ((t.blocks.length + bkTot t.blocks : Nat) : Int) - (t.before.length : Int) by have := unhide HT; omega)
  go_enter Tryz.func7, Tryz.ntmps7
  go_wp2_with fail
  refine (szEntryS_any A1 t.base.length c1 l _ hn1 (by omega) (by omega)).mono ?_
  rintro e w' ⟨rfl, rfl⟩
  rw [if_pos (by omega)]
  go_wp2_with fail
  refine (szBlockS_any A2 c2 t.blocks (l - (t.base.length : Int)) _ _ h2 hn2 (by omega) (by omega)).mono ?_
  rintro e w2 ⟨rfl, b2⟩
  rw [szL_yes (by omega)]
  have z2 : w2.cell? ⟨w.heap.size, 2, none⟩ = some _ := (K0.new_ b2).cell 2
  have hbt : 0 ≤ ((t.blocks.length + bkTot t.blocks : Nat) : Int) := Int.natCast_nonneg _
  generalize ((t.blocks.length + bkTot t.blocks : Nat) : Int) = bt at *
  go_wp2_with fail
  refine (szIntS_any A3 t.before.length c3 (l - (t.base.length : Int) - bt) _ hn3 (by omega) (by omega)).mono ?_
  rintro e w' ⟨rfl, rfl⟩
  rw [if_pos (by omega)]
  have i3 : ¬ l - (t.base.length : Int) - bt - (t.before.length : Int) < 0 := by omega
  go_wp2
  go_ret
  exact ⟨reti (by rw [unhide HZ, unhide HTC]), bthen hB b2⟩
set_option maxHeartbeats 1000000 in
theorem eqBlockTree_any (x y : Tr) (A1 : Option Addr) (c1 : Nat) (A2 : Option Addr) (c2 : Nat) (A3 : Option Addr) (c3 : Nat) (B1 : Option Addr) (d1 : Nat) (B2 : Option Addr) (d2 : Nat) (B3 : Option Addr) (d3 : Nat) (w : World) (h : TrR w x A1 A2 A3) (g : TrR w y B1 B2 B3) (hb1 : x.base.length ≤ 4611686018427387904) (hb2 : x.blocks.length ≤ 4611686018427387904) (hbs : ∀ b ∈ x.blocks, b.list.length ≤ 4611686018427387904) (hb3 : x.before.length ≤ 4611686018427387904) :
    Calls Tryz.prog 11 #[.agg (trA x A1 c1 A2 c2 A3 c3), .agg (trA y B1 d1 B2 d2 B3 d3)] w fun e w' => e = .returned (.bool (decide (x = y))) ∧ Below w.heap.size w w' := by
  have HBS := hide hbs
  clear hbs
  have hB : Below w.heap.size w ((w.alloc (.cells (trA x A1 c1 A2 c2 A3 c3) 31)).alloc (.cells (trA y B1 d1 B2 d2 B3 d3) 31)) := ((Below.refl _ _).alloc (Nat.le_refl _) _).alloc (by simp) _
  have K0 := (Blk.new w 31 (trA x A1 c1 A2 c2 A3 c3)).alloc (.cells (trA y B1 d1 B2 d2 B3 d3) 31)
  have K1 := Blk.new (w.alloc (.cells (trA x A1 c1 A2 c2 A3 c3) 31)) 31 (trA y B1 d1 B2 d2 B3 d3)
  simp only [World.size_alloc, trA] at K0 K1 hB ⊢
  replace h := h.new hB
  replace g := g.new hB
  go_enter Tryz.func11, Tryz.ntmps11
  go_wp2_with fail
  refine (eqEntryS_any A1 B1 c1 d1 x.base y.base _ h.b1 g.b1 hb1).mono ?_
  rintro e v1 ⟨rfl, b1⟩
  by_cases e1 : x.base = y.base
  rotate_left
  · rw [decide_eq_false e1]
    have HE := hide (show ¬ x = y from fun h => e1 (by rw [h]))
    clear e1
    go_wp2
    go_ret
    exact ⟨retb (decide_eq_false (unhide HE)).symm, bthen hB b1⟩
  rw [decide_eq_true e1]
  have H1 := hide e1
  clear e1
  replace h := h.new b1
  replace g := g.new b1
  replace K0 := K0.new_ b1
  replace K1 := K1.new_ b1
  replace hB := bthen hB b1
  have x1 : v1.cell? ⟨w.heap.size, 1, none⟩ = some _ := K0.cell 1
  have y1 : v1.cell? ⟨w.heap.size + 1, 1, none⟩ = some _ := K1.cell 1
  go_wp2_with fail
  refine (eqBlockS_any A2 B2 c2 d2 x.blocks y.blocks _ _ _ h.b2 g.b2 hb2 (unhide HBS)).mono ?_
  rintro e v2 ⟨rfl, b2⟩
  by_cases e1 : x.blocks = y.blocks
  rotate_left
  · rw [decide_eq_false e1]
    have HE := hide (show ¬ x = y from fun h => e1 (by rw [h]))
    clear e1
    go_wp2
    go_ret
    exact ⟨retb (decide_eq_false (unhide HE)).symm, bthen hB b2⟩
  rw [decide_eq_true e1]
  have H2 := hide e1
  clear e1
  replace h := h.new b2
  replace g := g.new b2
  replace K0 := K0.new_ b2
  replace K1 := K1.new_ b2
  replace hB := bthen hB b2
  have x2 : v2.cell? ⟨w.heap.size, 2, none⟩ = some _ := K0.cell 2
  have y2 : v2.cell? ⟨w.heap.size + 1, 2, none⟩ = some _ := K1.cell 2
  go_wp2_with fail
  refine (eqIntS_any A3 B3 c3 d3 x.before y.before _ h.b3 g.b3 hb3).mono ?_
  rintro e v3 ⟨rfl, m3, rfl⟩
  by_cases e1 : x.before = y.before
  · rw [decide_eq_true e1]
    have HE := hide (show x = y by have h1 := unhide H1; have h2 := unhide H2; cases x; cases y; simp_all)
    clear e1
    go_wp2
    go_ret
    exact ⟨retb (decide_eq_true (unhide HE)).symm, below_drewN hB m3⟩
  · rw [decide_eq_false e1]
    have HE := hide (show ¬ x = y from fun h => e1 (by rw [h]))
    clear e1
    go_wp2
    go_ret
    exact ⟨retb (decide_eq_false (unhide HE)).symm, below_drewN hB m3⟩
def markTrE1 (k : Int) (t : Tr) : Int := k + t.base.length * 2
def markTrE2 (k : Int) (t : Tr) : Int := markBkE (markTrE1 k t) t.blocks
def markTrE (k : Int) (t : Tr) : Int := markTrE2 k t + t.before.length
def markTr (k : Int) (t : Tr) : Tr := ⟨markEnt k t.base.length, markBks (markTrE1 k t) t.blocks, iota (markTrE2 k t) t.before.length⟩
theorem markTrE_le (k : Int) (t : Tr) (h0 : 0 ≤ k) : k ≤ markTrE1 k t ∧ markTrE1 k t ≤ markTrE2 k t ∧ markTrE2 k t ≤ markTrE k t ∧ markTrE k t ≤ k + 9 * (trTot t : Nat) := by
  unfold markTrE markTrE2 markTrE1 trTot
  rw [markBkE_eq]
  omega
set_option maxHeartbeats 1000000 in
theorem markBlockTree_any (t : Tr) (A1 : Option Addr) (c1 : Nat) (A2 : Option Addr) (c2 : Nat) (A3 : Option Addr) (c3 : Nat) (fp : List Nat) (base : Nat) (k0 : Int) (w : World) (h : TrO w base t A1 c1 A2 c2 A3 c3 fp) (h0 : 0 ≤ k0) (h1 : k0 ≤ 10000000) (ht : trTot t ≤ 10000000) :
    Calls Tryz.prog 12 #[.agg (trA t A1 c1 A2 c2 A3 c3), .int .i64 k0] w fun e w' => e = .returned (.int .i64 (markTrE k0 t)) ∧ TrO w' base (markTr k0 t) A1 c1 A2 c2 A3 c3 fp ∧ Chg (TrS A1 A3 fp) w w' := by
  have HS := hide h.rng
  have HA := hide (⟨h.a12, h.a13, h.a23⟩ : _ ∧ _ ∧ _)
  have hge := h.ge
  obtain ⟨m1, m2, m3, m4⟩ := markTrE_le k0 t h0
  have hb : t.base.length ≤ 10000000 ∧ t.before.length ≤ 10000000 := by unfold trTot at ht; omega
  have HC := hide ((Chg.refl (TrS A1 A3 fp) w).alloc (.cells (trA t A1 c1 A2 c2 A3 c3) 31))
  have K0 := Blk.new w 31 (trA t A1 c1 A2 c2 A3 c3)
  have hB : Below w.heap.size w (w.alloc (.cells (trA t A1 c1 A2 c2 A3 c3) 31)) := (Below.refl _ _).alloc (Nat.le_refl _) _
  replace h := h.new hB
  have HE := hide (show markTrE k0 t = markTrE2 k0 t + t.before.length from rfl)
  have HE1 := hide (show markTrE1 k0 t = k0 + t.base.length * 2 from rfl)
  have HE2 := hide (show markTrE2 k0 t = markBkE (markTrE1 k0 t) t.blocks from rfl)
  simp only [trA] at K0 hB HC h ⊢
  have hlt : ∀ q, TrS A1 A3 fp q → q < w.heap.size := fun q hq => (unhide HS q hq).2
  obtain ⟨o1, o2, o3, -, a12, a13, a23⟩ := h
  have HLT := hide hlt
  have H12 := hide a12
  have H13 := hide a13
  have H23 := hide a23
  clear hlt a12 a13 a23
  go_enter Tryz.func12, Tryz.ntmps12
  go_wp2_with fail
  refine (markEntryS_any A1 c1 base k0 t.base _ o1 (by omega) h0 (by omega)).mono ?_
  rintro e v1 ⟨rfl, n1, ch1⟩
  rw [← unhide HE1]
  replace K0 := K0.chg ch1 (fun e => by have := unhide HLT _ (.inl e); omega)
  replace o2 := o2.keep bkO_good (fun q hq hqw => ch1.block q hqw (fun e => unhide H12 q e hq))
  replace o3 := own_chg o3 ch1 (fun q hq e => unhide H13 q e hq)
  have C1 := hide ((unhide HC).trans (ch1.mono fun q _ e => .inl e))
  have z1 : v1.cell? ⟨w.heap.size, 1, none⟩ = some _ := K0.cell 1
  clear ch1 hB
  go_wp2_with fail
  refine (markBlockS_any A2 c2 (markTrE1 k0 t) t.blocks fp v1 o2 (by omega) (by rw [← unhide HE2]; omega)).mono ?_
  rintro e v2 ⟨rfl, n2, ch2⟩
  rw [← unhide HE2]
  replace K0 := K0.chg ch2 (fun e => by have := unhide HLT _ (.inr (.inl e)); omega)
  replace n1 := own_chg n1 ch2 (fun q hq e => unhide H12 q hq e)
  replace o3 := own_chg o3 ch2 (fun q hq e => unhide H23 q hq e)
  have C2 := hide ((unhide C1).trans (ch2.mono fun q _ e => .inr (.inl e)))
  have z2 : v2.cell? ⟨w.heap.size, 2, none⟩ = some _ := K0.cell 2
  clear ch2
  go_wp2_with fail
  refine (markIntS_any A3 c3 base (markTrE2 k0 t) t.before v2 o3 (by omega) (by omega) (by omega)).mono ?_
  rintro e v3 ⟨rfl, n3, ch3⟩
  rw [← unhide HE]
  replace n1 := own_chg n1 ch3 (fun q hq e => unhide H13 q hq e)
  replace n2 := n2.keep bkO_good (fun q hq hqw => ch3.block q hqw (fun e => unhide H23 q e hq))
  have C3 := hide ((unhide C2).trans (ch3.mono fun q _ e => .inr (.inr e)))
  clear ch3
  go_wp2
  go_ret
  refine ⟨rfl, ⟨?_, ?_, ?_, hge, unhide H12, unhide H13, unhide H23⟩, unhide C3⟩
  · simpa [markTr, markEnt_length] using n1
  · simpa [markTr, markBks_len] using n2
  · simpa [markTr, iota_length] using n3
end Go.Proofs.YtmpdopjailomlaaGreat
