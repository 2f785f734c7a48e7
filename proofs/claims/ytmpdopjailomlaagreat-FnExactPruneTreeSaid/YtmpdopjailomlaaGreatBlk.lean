/- Blocks, answers, effects as data. -/
import Derived.Test.YtmpdopjailomlaaGreatFlatAction
import Derived.Test.YtmpdopjailomlaaGreatDeep
import Derived.Test.YtmpdopjailomlaaGreatIntS
import Derived.Test.YtmpdopjailomlaaGreatFlatEntry
import Derived.Test.YtmpdopjailomlaaGreatRdr
import Derived.Laws.Rows
namespace Go.Proofs.YtmpdopjailomlaaGreat
open Go.RowKit
set_option linter.unusedVariables false
set_option linter.unusedSimpArgs false

structure Bk where
  before : Int
  height : Int
  view : Int
  list : List Act
  root : Int
  eff : Int
deriving DecidableEq
structure Ans where
  key : Int
  value : Int
  proof : List Int
deriving DecidableEq
structure Eff where
  done : Bool
  reads : List Ent
  writes : List Ent
deriving DecidableEq
theorem Blk.drewN {w : World} {g : Nat} {t : TypeId} {cs : Array Value} (h : Blk w g t cs) (n : Nat) : Blk (w.drewN n) g t cs := h
theorem szIntS_any (A : Option Addr) (n c : Nat) (l : Int) (w : World) (hn : n ≤ 9223372036854775807) (h0 : 0 ≤ l) (h1 : l ≤ 1048576) :
    Calls Tryz.prog 34 #[.slice A n c, .int .i64 l] w fun e w' => e = .returned (.int .i64 (if (n : Int) ≤ l then l - n else -1)) ∧ w = w' := by
  by_cases h : (n : Int) ≤ l
  · have HI := hide (show (if (n : Int) ≤ l then l - (n : Int) else -1) = l - n from if_pos h)
    have h2 : 0 ≤ l - (n : Int) := by omega
    go_enter Tryz.func34, Tryz.ntmps34
    go_wp2
    go_ret
    exact ⟨by first | rfl | exact reti (unhide HI).symm, rfl⟩
  · have HI := hide (show (if (n : Int) ≤ l then l - (n : Int) else -1) = -1 from if_neg h)
    have h2 : l - (n : Int) < 0 := by omega
    go_enter Tryz.func34, Tryz.ntmps34
    go_wp2
    go_ret
    exact ⟨by first | rfl | exact reti (unhide HI).symm, rfl⟩
end Go.Proofs.YtmpdopjailomlaaGreat
