/-
  Short names for laws that the proof uses often. Conditions: none.
-/
import Derived.Test.YteciblfmgdlipaaGreatDoorProg
import Derived.WalkKit
import Derived.RowKit3
import Derived.Lib.Hide
import Derived.Great.BuildSlice
import Derived.Great.Walk
namespace Go.Proofs.YteciblfmgdlipaaGreatDoor
open Go.RowKit Go.Great
theorem Gs {α : Type} {xs : Array α} {i : Nat} {b : α} (h : xs[i]? = some b) : i < xs.size := (Array.getElem?_eq_some_iff.1 h).1
abbrev Ga := @World.grownBy_alloc
abbrev Hq := @Lib.hid
abbrev Cq := @cell_of_row
end Go.Proofs.YteciblfmgdlipaaGreatDoor
