/- What the laws on counters draw. -/
import Derived.Test.YtiaodcjocogkkaaDrawA
import Derived.Test.YtiaodcjocogkkaaViews
namespace Go.Proofs.Ytiaodcjocogkkaa
open Go.RowKit
set_option linter.unusedVariables false
set_option linter.unusedSimpArgs false


/-- a slice that lies in blocks that were made later -/
def Far (w : World) (A : Option Addr) : Prop := ∀ b off, A = some ⟨b, off, none⟩ → w.heap.size ≤ b
theorem own_far_ {w0 w : World} {base : Nat} {e : TypeId} {size n c : Nat} {A : Option Addr} {xs : List Value} (h : w.ownsRow base e size (.slice A n c) n xs) (hb : w0.heap.size ≤ base) : Far w0 A := by
  intro b off hA
  rcases h.2 with ⟨hv, _⟩ | ⟨g, cap, cur, hv, hg, _⟩
  · injection hv with hv
    rw [hA] at hv
    cases hv
  · injection hv with hv
    rw [hA] at hv
    injection hv with hv
    injection hv with hv
    omega
theorem Rd.chg_far {w0 w w' : World} {g : Nat} {A : Option Addr} {xs : List Value} (h : Rd w A xs) (hf : Far w0 A) (hg : g < w0.heap.size) (hc : Chg (fun k => k = g) w w') : Rd w' A xs := rd_chg h hc (fun b off hA e => by have := hf b off hA; omega)
end Go.Proofs.Ytiaodcjocogkkaa
