/- Trees of blocks as data, and by value in the laws: to, eq, sz, mark. -/
import Derived.Test.YtefdhlfljpppfaaGreatBkM
import Derived.Test.YtefdhlfljpppfaaGreatFlatEntry
import Derived.Test.YtefdhlfljpppfaaGreatIntS
namespace Go.Proofs.YtefdhlfljpppfaaGreat
open Go.RowKit
set_option linter.unusedVariables false
set_option linter.unusedSimpArgs false

structure Tr where
  base : List Ent
  blocks : List Bk
  before : List Int
deriving DecidableEq
def trA (t : Tr) (A1 : Option Addr) (c1 : Nat) (A2 : Option Addr) (c2 : Nat) (A3 : Option Addr) (c3 : Nat) : Array Value := #[.slice A1 t.base.length c1, .slice A2 t.blocks.length c2, .slice A3 t.before.length c3]
/-- how a tree reads -/
structure TrR (w : World) (t : Tr) (A1 A2 A3 : Option Addr) : Prop where
  b1 : Rd w A1 (t.base.flatMap encE)
  b2 : RdD bkR (fun _ => True) w A2 t.blocks
  b3 : Rd w A3 (t.before.map (.int .i64))
theorem TrR.new {w w' : World} {t : Tr} {A1 A2 A3 : Option Addr} (h : TrR w t A1 A2 A3) (hb : Below w.heap.size w w') : TrR w' t A1 A2 A3 := ⟨h.b1.new hb, h.b2.new bk_good hb, h.b3.new hb⟩
theorem TrR.drewN {w : World} {t : Tr} {A1 A2 A3 : Option Addr} (h : TrR w t A1 A2 A3) (n : Nat) : TrR (w.drewN n) t A1 A2 A3 := ⟨h.b1.drewN n, h.b2.drewN bk_good n, h.b3.drewN n⟩
/-- a tree of the call's own -/
structure TrO (w : World) (base : Nat) (t : Tr) (A1 : Option Addr) (c1 : Nat) (A2 : Option Addr) (c2 : Nat) (A3 : Option Addr) (c3 : Nat) (fp : List Nat) : Prop where
  o1 : w.ownsRow base 85 2 (.slice A1 t.base.length c1) t.base.length (t.base.flatMap encE)
  o2 : OwnD bkO 50 6 w A2 c2 t.blocks fp
  o3 : w.ownsRow base 3 1 (.slice A3 t.before.length c3) t.before.length (t.before.map (.int .i64))
  ge : ∀ k ∈ fp, base ≤ k
  a12 : ∀ p, A1 = some ⟨p, 0, none⟩ → p ∉ fp
  a13 : ∀ p, A1 = some ⟨p, 0, none⟩ → A3 ≠ some ⟨p, 0, none⟩
  a23 : ∀ p, A3 = some ⟨p, 0, none⟩ → p ∉ fp
def TrS (A1 A3 : Option Addr) (fp : List Nat) (q : Nat) : Prop := A1 = some ⟨q, 0, none⟩ ∨ q ∈ fp ∨ A3 = some ⟨q, 0, none⟩
section
variable {w w' : World} {base : Nat} {t : Tr} {A1 : Option Addr} {c1 : Nat} {A2 : Option Addr} {c2 : Nat} {A3 : Option Addr} {c3 : Nat} {fp : List Nat}
theorem TrO.new (h : TrO w base t A1 c1 A2 c2 A3 c3 fp) (hb : Below w.heap.size w w') : TrO w' base t A1 c1 A2 c2 A3 c3 fp := ⟨own_new h.o1 hb, h.o2.new bkO_good hb, own_new h.o3 hb, h.ge, h.a12, h.a13, h.a23⟩
theorem TrO.rng (h : TrO w base t A1 c1 A2 c2 A3 c3 fp) : ∀ q, TrS A1 A3 fp q → base ≤ q ∧ q < w.heap.size := fun q hq => by
  rcases hq with hq | hq | hq
  · exact own_rng h.o1 q hq
  · exact ⟨h.ge q hq, h.o2.lt bkO_good q hq⟩
  · exact own_rng h.o3 q hq
theorem TrO.chg {S : Nat → Prop} (h : TrO w base t A1 c1 A2 c2 A3 c3 fp) (hc : Chg S w w') (hS : ∀ q, TrS A1 A3 fp q → ¬ S q) : TrO w' base t A1 c1 A2 c2 A3 c3 fp :=
  ⟨own_chg h.o1 hc fun q hq e => hS q (.inl hq) e, h.o2.keep bkO_good fun q hq hqw => hc.block q hqw (hS q (.inr (.inl hq))), own_chg h.o3 hc fun q hq e => hS q (.inr (.inr hq)) e, h.ge, h.a12, h.a13, h.a23⟩
theorem TrO.drewN (h : TrO w base t A1 c1 A2 c2 A3 c3 fp) (n : Nat) : TrO (w.drewN n) base t A1 c1 A2 c2 A3 c3 fp :=
  ⟨own_drewN h.o1 n, h.o2.keep bkO_good (w' := w.drewN n) fun _ _ _ => rfl, own_drewN h.o3 n, h.ge, h.a12, h.a13, h.a23⟩
theorem TrO.rd (h : TrO w base t A1 c1 A2 c2 A3 c3 fp) : TrR w t A1 A2 A3 := ⟨own_rd h.o1, h.o2.rd bkO_good bk_good (fun _ _ => trivial), own_rd h.o3⟩
end
/-- what a tree takes in the count of sizes -/
def trTot (t : Tr) : Nat := t.base.length + (t.blocks.length + bkTot t.blocks) + t.before.length
def markTrE1 (k : Int) (t : Tr) : Int := k + t.base.length * 2
def markTrE2 (k : Int) (t : Tr) : Int := markBkE (markTrE1 k t) t.blocks
def markTrE (k : Int) (t : Tr) : Int := markTrE2 k t + t.before.length
def markTr (k : Int) (t : Tr) : Tr := ⟨markEnt k t.base.length, markBks (markTrE1 k t) t.blocks, iota (markTrE2 k t) t.before.length⟩
theorem markTrE_le (k : Int) (t : Tr) (h0 : 0 ≤ k) : k ≤ markTrE1 k t ∧ markTrE1 k t ≤ markTrE2 k t ∧ markTrE2 k t ≤ markTrE k t ∧ markTrE k t ≤ k + 9 * (trTot t : Nat) := by
  unfold markTrE markTrE2 markTrE1 trTot
  rw [markBkE_eq]
  omega
end Go.Proofs.YtefdhlfljpppfaaGreat
