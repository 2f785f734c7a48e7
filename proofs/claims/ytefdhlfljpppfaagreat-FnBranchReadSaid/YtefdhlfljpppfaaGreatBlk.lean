/- Blocks, answers, effects as data. -/
import Derived.Test.YtefdhlfljpppfaaGreatFlatAction
import Derived.Test.YtefdhlfljpppfaaGreatDeep
import Derived.Test.YtefdhlfljpppfaaGreatIntS
import Derived.Test.YtefdhlfljpppfaaGreatFlatEntry
import Derived.Test.YtefdhlfljpppfaaGreatRdr
import Derived.Laws.Rows
namespace Go.Proofs.YtefdhlfljpppfaaGreat
open Go.RowKit
set_option linter.unusedVariables false
set_option linter.unusedSimpArgs false

structure Bk where
  before : Int
  height : Int
  view : Int
  list : List Act
  root : Int
  eff : Int
deriving DecidableEq
structure Ans where
  key : Int
  value : Int
  proof : List Int
deriving DecidableEq
structure Eff where
  done : Bool
  reads : List Ent
  writes : List Ent
deriving DecidableEq
theorem Blk.drewN {w : World} {g : Nat} {t : TypeId} {cs : Array Value} (h : Blk w g t cs) (n : Nat) : Blk (w.drewN n) g t cs := h
end Go.Proofs.YtefdhlfljpppfaaGreat
