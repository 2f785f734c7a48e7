/- Facts of rows and variables that copies share. -/
import Derived.Test.YtihlhejencninaaGreatGmem
import Derived.Test.YtihlhejencninaaGreatGloc
import Derived.Test.YtihlhejencninaaGreatGeff
import Derived.Test.YtihlhejencninaaGreatGact
import Derived.Test.YtihlhejencninaaGreatGval
namespace Go.Proofs.YtihlhejencninaaGreat
open Go.RowKit
set_option linter.unusedVariables false
set_option linter.unusedSimpArgs false

def eOwn (e : TypeId) (s B : Nat) (v : Value) (w : World) : Prop := ∃ A, v = .slice A 0 0 ∧ w.ownsRow B e s (.slice A 0 0) 0 []
theorem sb_eOwn (e : TypeId) (s B : Nat) : StB (eOwn e s B) := fun _ _ _ hb ⟨A, h1, h2⟩ => ⟨A, h1, own_new h2 hb⟩
def newBox (B : Nat) (t : TypeId) (z : Array Value) (v : Value) (w : World) : Prop := ∃ g, v = .pointer (some ⟨g, 0, none⟩) ∧ B ≤ g ∧ Blk w g t z
theorem sb_newBox (B : Nat) (t : TypeId) (z : Array Value) : StB (newBox B t z) := fun _ _ _ hb ⟨g, h1, h2, h3⟩ => ⟨g, h1, h2, h3.new_ hb⟩
theorem bthen' {B1 B2 : Nat} {a b c : World} (h1 : Below B1 a b) (h2 : Below B2 b c) (h : B1 ≤ B2 := by omega) : Below B1 a c := h1.trans ⟨h2.os, h2.tape, h2.output, h2.size, fun q hq => h2.block q (Nat.lt_of_lt_of_le hq h)⟩
theorem one_ia (xs : List Int) : ∀ u ∈ xs.map (Value.int .i64), u.oneCell' = true := fun u hu => by
 obtain ⟨z, _, rfl⟩ := List.mem_map.1 hu
 rfl
theorem len_acts (al : List Act) : (al.flatMap encA).length = al.length * 4 := by
 induction al with
 | nil => rfl
 | cons e es ih => rw [List.flatMap_cons, List.length_append, ih, List.length_cons]; simp [encA]; omega
theorem one_acts2 (al : List Act) : ∀ u ∈ al.flatMap encA, u.oneCell' = true := by
 intro u hu
 obtain ⟨e, _, h⟩ := List.mem_flatMap.1 hu
 simp [encA] at h
 rcases h with rfl | rfl | rfl | rfl <;> rfl
theorem info_actz : (Tryz.prog.info? 56).map (fun i => (i.zero, i.size, i.bytes)) = some (some (.agg #[.int .i64 0, .int .i64 0, .int .i64 0, .int .i64 0]), 4, 32) := by kernel_rfl
theorem el_actz : El Tryz.prog 30 56 4 32 := El.mk_ Tryz.underlying30 info_actz rfl (by omega)
def sOwn (B : Nat) (s : List Ent) (v : Value) (w : World) : Prop := ∃ A c, v = .slice A s.length c ∧ w.ownsRow B 79 2 (.slice A s.length c) s.length (s.flatMap encE)
theorem sb_Own (B : Nat) (s : List Ent) : StB (sOwn B s) := fun _ _ _ hb ⟨A, c, h1, h2⟩ => ⟨A, c, h1, own_new h2 hb⟩
theorem own_setRow {w : World} {base : Nat} {e : TypeId} {size n c : Nat} {A : Option Addr} {xs : List Value} (h : w.ownsRow base e size (.slice A n c) n xs) {g : Nat} (hg : g < base) (ds : Array Value) : (w.setRow g ds).ownsRow base e size (.slice A n c) n xs :=
 own_keep h fun q hA hq => setRow_other w g q ds (by have := own_rng h q hA; omega)
end Go.Proofs.YtihlhejencninaaGreat
