/-
  No cell of these rows narrows 'for every input' (looked for: loops, veiled, ifaces, maps, wideKeys, modest, calm, conditions, laid).
  DERIVED. THE GIVEN ROWS OF THIS SEAT. 8 by the template 'for every input the law returns true; each argument reads behind the call as it read before'; 0 by the template 'total and deterministic' (their statements: YtdjenhbglkcapaaTotals.lean).
  GIVEN WITH THE SEED: the statements are not yours to turn. If you find one false, say at which input.
  Laid BY PROGRAM, IN A SANDBOX (cutbox-rows.mjs): the forced cells as the released guide's own fill.sh prints them over the translation 2a6812c42b5885fe… (all of the seat's roots in one cut). By AI agents, Wed Nov 11 2026. No macro, syntax, notation, axiom, sorry.
-/
import Derived.Test.YtdjenhbglkcapaaChecked
import GoSem.Claim
import GoSem.ClaimJoined
import GoSem.ClaimMapViews
import Derived.JoinedTies
import Derived.KernelRfl
namespace Go.Proofs.Ytdjenhbglkcapaa
/- THE CELL 'sum', in the pinned program and in every row, IS THE sha256 OF THE DUMP (.gsa) THAT YtdjenhbglkcapaaProg.lean LOADS. Nothing in Lean hashes anything: it is a label: what it is worth is what the hold of that sum in a sandbox is worth. -/
noncomputable def Try.pinned : Pinned := { name := "ytdjenhbglkcapaa", sum := "2a6812c42b5885fe2002f747d89549a815835f8e0cd334dbbf74d200ddf3beb9", checked := Try.checked }
namespace Rows
def none {H : Type} : Left H := { results := [], args := [] }

/-- 'retortlaw10.CellBits': WHATEVER THE INPUT: true; the input reads as it did. -/
def cellBitsSpec : ChangeSpec := { name := "cellBits", fn := fun _ => fun
  | [d] => { results := [.lit (.bool true)], args := [d] }
  | _ => none }
def cellBitsRow : OpenClaim := { program := "ytdjenhbglkcapaa", sum := "2a6812c42b5885fe2002f747d89549a815835f8e0cd334dbbf74d200ddf3beb9", func := "retort/retortlaw10.CellBits", spec := "cellBits", inPlace := ["math.Float64frombits", "math.Float64bits", "math.sqrt"], apart := false }
def CellBitsSaid : Prop := cellBitsRow.holds Try.pinned (OpenSpec.ofChange cellBitsSpec)

/-- ITS FALSE NEIGHBOUR: 'it returns false'. Refute it at one input. -/
def cellBitsWrong : ChangeSpec := { name := "cellBits", fn := fun _ => fun
  | [d] => { results := [.lit (.bool false)], args := [d] }
  | _ => none }
def CellBitsWrongFalsely : Prop := cellBitsRow.holds Try.pinned (OpenSpec.ofChange cellBitsWrong)

/-- 'retortlaw10.CellWhole': WHATEVER THE INPUT: true; the input reads as it did. -/
def cellWholeSpec : ChangeSpec := { name := "cellWhole", fn := fun _ => fun
  | [d1, d2] => { results := [.lit (.bool true)], args := [d1, d2] }
  | _ => none }
def cellWholeRow : OpenClaim := { program := "ytdjenhbglkcapaa", sum := "2a6812c42b5885fe2002f747d89549a815835f8e0cd334dbbf74d200ddf3beb9", func := "retort/retortlaw10.CellWhole", spec := "cellWhole", inPlace := ["math.Float64frombits", "math.Float64bits", "math.sqrt"], apart := false }
def CellWholeSaid : Prop := cellWholeRow.holds Try.pinned (OpenSpec.ofChange cellWholeSpec)

/-- ITS FALSE NEIGHBOUR: 'it returns false'. Refute it at one input. -/
def cellWholeWrong : ChangeSpec := { name := "cellWhole", fn := fun _ => fun
  | [d1, d2] => { results := [.lit (.bool false)], args := [d1, d2] }
  | _ => none }
def CellWholeWrongFalsely : Prop := cellWholeRow.holds Try.pinned (OpenSpec.ofChange cellWholeWrong)

/-- 'retortlaw10.CellShifts': WHATEVER THE INPUT: true; the input reads as it did. -/
def cellShiftsSpec : ChangeSpec := { name := "cellShifts", fn := fun _ => fun
  | [d1, d2] => { results := [.lit (.bool true)], args := [d1, d2] }
  | _ => none }
def cellShiftsRow : OpenClaim := { program := "ytdjenhbglkcapaa", sum := "2a6812c42b5885fe2002f747d89549a815835f8e0cd334dbbf74d200ddf3beb9", func := "retort/retortlaw10.CellShifts", spec := "cellShifts", inPlace := ["math.Float64frombits", "math.Float64bits", "math.sqrt"], apart := false }
def CellShiftsSaid : Prop := cellShiftsRow.holds Try.pinned (OpenSpec.ofChange cellShiftsSpec)

/-- ITS FALSE NEIGHBOUR: 'it returns false'. Refute it at one input. -/
def cellShiftsWrong : ChangeSpec := { name := "cellShifts", fn := fun _ => fun
  | [d1, d2] => { results := [.lit (.bool false)], args := [d1, d2] }
  | _ => none }
def CellShiftsWrongFalsely : Prop := cellShiftsRow.holds Try.pinned (OpenSpec.ofChange cellShiftsWrong)

/-- 'retortlaw10.CellExact': WHATEVER THE INPUT: true; the input reads as it did. -/
def cellExactSpec : ChangeSpec := { name := "cellExact", fn := fun _ => fun
  | [d1, d2] => { results := [.lit (.bool true)], args := [d1, d2] }
  | _ => none }
def cellExactRow : OpenClaim := { program := "ytdjenhbglkcapaa", sum := "2a6812c42b5885fe2002f747d89549a815835f8e0cd334dbbf74d200ddf3beb9", func := "retort/retortlaw10.CellExact", spec := "cellExact", inPlace := ["math.Float64frombits", "math.Float64bits", "math.sqrt"], apart := false }
def CellExactSaid : Prop := cellExactRow.holds Try.pinned (OpenSpec.ofChange cellExactSpec)

/-- ITS FALSE NEIGHBOUR: 'it returns false'. Refute it at one input. -/
def cellExactWrong : ChangeSpec := { name := "cellExact", fn := fun _ => fun
  | [d1, d2] => { results := [.lit (.bool false)], args := [d1, d2] }
  | _ => none }
def CellExactWrongFalsely : Prop := cellExactRow.holds Try.pinned (OpenSpec.ofChange cellExactWrong)

/-- 'retortlaw10.CellNones': WHATEVER THE INPUT: true; the input reads as it did. -/
def cellNonesSpec : ChangeSpec := { name := "cellNones", fn := fun _ => fun
  | [d1, d2] => { results := [.lit (.bool true)], args := [d1, d2] }
  | _ => none }
def cellNonesRow : OpenClaim := { program := "ytdjenhbglkcapaa", sum := "2a6812c42b5885fe2002f747d89549a815835f8e0cd334dbbf74d200ddf3beb9", func := "retort/retortlaw10.CellNones", spec := "cellNones", inPlace := ["math.Float64frombits", "math.Float64bits", "math.sqrt"], apart := false }
def CellNonesSaid : Prop := cellNonesRow.holds Try.pinned (OpenSpec.ofChange cellNonesSpec)

/-- ITS FALSE NEIGHBOUR: 'it returns false'. Refute it at one input. -/
def cellNonesWrong : ChangeSpec := { name := "cellNones", fn := fun _ => fun
  | [d1, d2] => { results := [.lit (.bool false)], args := [d1, d2] }
  | _ => none }
def CellNonesWrongFalsely : Prop := cellNonesRow.holds Try.pinned (OpenSpec.ofChange cellNonesWrong)

/-- 'retortlaw10.CellOrder': WHATEVER THE INPUT: true; the input reads as it did. -/
def cellOrderSpec : ChangeSpec := { name := "cellOrder", fn := fun _ => fun
  | [d1, d2] => { results := [.lit (.bool true)], args := [d1, d2] }
  | _ => none }
def cellOrderRow : OpenClaim := { program := "ytdjenhbglkcapaa", sum := "2a6812c42b5885fe2002f747d89549a815835f8e0cd334dbbf74d200ddf3beb9", func := "retort/retortlaw10.CellOrder", spec := "cellOrder", inPlace := ["math.Float64frombits", "math.Float64bits", "math.sqrt"], apart := false }
def CellOrderSaid : Prop := cellOrderRow.holds Try.pinned (OpenSpec.ofChange cellOrderSpec)

/-- ITS FALSE NEIGHBOUR: 'it returns false'. Refute it at one input. -/
def cellOrderWrong : ChangeSpec := { name := "cellOrder", fn := fun _ => fun
  | [d1, d2] => { results := [.lit (.bool false)], args := [d1, d2] }
  | _ => none }
def CellOrderWrongFalsely : Prop := cellOrderRow.holds Try.pinned (OpenSpec.ofChange cellOrderWrong)

/-- 'retortlaw10.CellTwos': WHATEVER THE INPUT: true; the input reads as it did. -/
def cellTwosSpec : ChangeSpec := { name := "cellTwos", fn := fun _ => fun
  | [d] => { results := [.lit (.bool true)], args := [d] }
  | _ => none }
def cellTwosRow : OpenClaim := { program := "ytdjenhbglkcapaa", sum := "2a6812c42b5885fe2002f747d89549a815835f8e0cd334dbbf74d200ddf3beb9", func := "retort/retortlaw10.CellTwos", spec := "cellTwos", inPlace := ["math.Float64frombits", "math.Float64bits", "math.sqrt"], apart := false }
def CellTwosSaid : Prop := cellTwosRow.holds Try.pinned (OpenSpec.ofChange cellTwosSpec)

/-- ITS FALSE NEIGHBOUR: 'it returns false'. Refute it at one input. -/
def cellTwosWrong : ChangeSpec := { name := "cellTwos", fn := fun _ => fun
  | [d] => { results := [.lit (.bool false)], args := [d] }
  | _ => none }
def CellTwosWrongFalsely : Prop := cellTwosRow.holds Try.pinned (OpenSpec.ofChange cellTwosWrong)

/-- 'retortlaw10.CellOnes': WHATEVER THE INPUT: true; the input reads as it did. -/
def cellOnesSpec : ChangeSpec := { name := "cellOnes", fn := fun _ => fun
  | [d] => { results := [.lit (.bool true)], args := [d] }
  | _ => none }
def cellOnesRow : OpenClaim := { program := "ytdjenhbglkcapaa", sum := "2a6812c42b5885fe2002f747d89549a815835f8e0cd334dbbf74d200ddf3beb9", func := "retort/retortlaw10.CellOnes", spec := "cellOnes", inPlace := ["math.Float64frombits", "math.Float64bits", "math.sqrt"], apart := false }
def CellOnesSaid : Prop := cellOnesRow.holds Try.pinned (OpenSpec.ofChange cellOnesSpec)

/-- ITS FALSE NEIGHBOUR: 'it returns false'. Refute it at one input. -/
def cellOnesWrong : ChangeSpec := { name := "cellOnes", fn := fun _ => fun
  | [d] => { results := [.lit (.bool false)], args := [d] }
  | _ => none }
def CellOnesWrongFalsely : Prop := cellOnesRow.holds Try.pinned (OpenSpec.ofChange cellOnesWrong)

/- THE SECOND FORM. 'bulk': how many values and letters a reading holds, each counted each time it is reached (what is shared counts as often as it is met; a slice's spare places count too). A statement '..UptoSaid' is the law's where the arguments, and the package variables that the reading takes, are together of bulk at most 1048576: NARROWER than '..Said'. Prove '..Said' where nothing that the law and all that it calls make is longer than what came in: it says more and counts as full. Else prove '..UptoSaid'. A law counts once. -/
mutual
def uptoBulk {H : Type} : DataW H → Nat
  | .lit (.string bytes) => bytes.length + 1
  | .lit _ => 1
  | .nil => 1
  | .ptr d => uptoBulk d + 1
  | .slice elems spare => uptoBulkAll elems + uptoBulkAll spare + 1
  | .agg parts => uptoBulkAll parts + 1
  | .iface _ d => uptoBulk d + 1
  | .map entries => uptoBulkEntries entries + 1
  | .held _ => 1
def uptoBulkAll {H : Type} : List (DataW H) → Nat
  | [] => 0
  | d :: r => uptoBulk d + uptoBulkAll r
def uptoBulkEntries {H : Type} : List (Lit × DataW H) → Nat
  | [] => 0
  | x :: r => uptoBulkEntry x + uptoBulkEntries r
def uptoBulkEntry {H : Type} : Lit × DataW H → Nat
  | (.string bytes, d) => bytes.length + uptoBulk d + 1
  | (_, d) => uptoBulk d + 1
 end
def uptoSmall : (H : Type) → List (DataW H) → Bool := fun _ ds => decide (uptoBulkAll ds ≤ 1048576)
def OpenSpec.upto (s : _root_.Go.ChangeSpec) : _root_.Go.OpenSpec := { _root_.Go.OpenSpec.ofChange s with cond := some uptoSmall }

/-- 'retortlaw10.CellBits', WHERE WHAT IT READS IS OF BULK AT MOST 1048576: true; the input reads as it did. -/
def cellBitsUptoRow : OpenClaim := { program := "ytdjenhbglkcapaa", sum := "2a6812c42b5885fe2002f747d89549a815835f8e0cd334dbbf74d200ddf3beb9", func := "retort/retortlaw10.CellBits", spec := "cellBits", inPlace := ["math.Float64frombits", "math.Float64bits", "math.sqrt"], apart := false, narrowed := true }
def CellBitsUptoSaid : Prop := cellBitsUptoRow.holds Try.pinned (OpenSpec.upto cellBitsSpec)

/-- 'retortlaw10.CellWhole', WHERE WHAT IT READS IS OF BULK AT MOST 1048576: true; the input reads as it did. -/
def cellWholeUptoRow : OpenClaim := { program := "ytdjenhbglkcapaa", sum := "2a6812c42b5885fe2002f747d89549a815835f8e0cd334dbbf74d200ddf3beb9", func := "retort/retortlaw10.CellWhole", spec := "cellWhole", inPlace := ["math.Float64frombits", "math.Float64bits", "math.sqrt"], apart := false, narrowed := true }
def CellWholeUptoSaid : Prop := cellWholeUptoRow.holds Try.pinned (OpenSpec.upto cellWholeSpec)

/-- 'retortlaw10.CellShifts', WHERE WHAT IT READS IS OF BULK AT MOST 1048576: true; the input reads as it did. -/
def cellShiftsUptoRow : OpenClaim := { program := "ytdjenhbglkcapaa", sum := "2a6812c42b5885fe2002f747d89549a815835f8e0cd334dbbf74d200ddf3beb9", func := "retort/retortlaw10.CellShifts", spec := "cellShifts", inPlace := ["math.Float64frombits", "math.Float64bits", "math.sqrt"], apart := false, narrowed := true }
def CellShiftsUptoSaid : Prop := cellShiftsUptoRow.holds Try.pinned (OpenSpec.upto cellShiftsSpec)

/-- 'retortlaw10.CellExact', WHERE WHAT IT READS IS OF BULK AT MOST 1048576: true; the input reads as it did. -/
def cellExactUptoRow : OpenClaim := { program := "ytdjenhbglkcapaa", sum := "2a6812c42b5885fe2002f747d89549a815835f8e0cd334dbbf74d200ddf3beb9", func := "retort/retortlaw10.CellExact", spec := "cellExact", inPlace := ["math.Float64frombits", "math.Float64bits", "math.sqrt"], apart := false, narrowed := true }
def CellExactUptoSaid : Prop := cellExactUptoRow.holds Try.pinned (OpenSpec.upto cellExactSpec)

/-- 'retortlaw10.CellNones', WHERE WHAT IT READS IS OF BULK AT MOST 1048576: true; the input reads as it did. -/
def cellNonesUptoRow : OpenClaim := { program := "ytdjenhbglkcapaa", sum := "2a6812c42b5885fe2002f747d89549a815835f8e0cd334dbbf74d200ddf3beb9", func := "retort/retortlaw10.CellNones", spec := "cellNones", inPlace := ["math.Float64frombits", "math.Float64bits", "math.sqrt"], apart := false, narrowed := true }
def CellNonesUptoSaid : Prop := cellNonesUptoRow.holds Try.pinned (OpenSpec.upto cellNonesSpec)

/-- 'retortlaw10.CellOrder', WHERE WHAT IT READS IS OF BULK AT MOST 1048576: true; the input reads as it did. -/
def cellOrderUptoRow : OpenClaim := { program := "ytdjenhbglkcapaa", sum := "2a6812c42b5885fe2002f747d89549a815835f8e0cd334dbbf74d200ddf3beb9", func := "retort/retortlaw10.CellOrder", spec := "cellOrder", inPlace := ["math.Float64frombits", "math.Float64bits", "math.sqrt"], apart := false, narrowed := true }
def CellOrderUptoSaid : Prop := cellOrderUptoRow.holds Try.pinned (OpenSpec.upto cellOrderSpec)

/-- 'retortlaw10.CellTwos', WHERE WHAT IT READS IS OF BULK AT MOST 1048576: true; the input reads as it did. -/
def cellTwosUptoRow : OpenClaim := { program := "ytdjenhbglkcapaa", sum := "2a6812c42b5885fe2002f747d89549a815835f8e0cd334dbbf74d200ddf3beb9", func := "retort/retortlaw10.CellTwos", spec := "cellTwos", inPlace := ["math.Float64frombits", "math.Float64bits", "math.sqrt"], apart := false, narrowed := true }
def CellTwosUptoSaid : Prop := cellTwosUptoRow.holds Try.pinned (OpenSpec.upto cellTwosSpec)

/-- 'retortlaw10.CellOnes', WHERE WHAT IT READS IS OF BULK AT MOST 1048576: true; the input reads as it did. -/
def cellOnesUptoRow : OpenClaim := { program := "ytdjenhbglkcapaa", sum := "2a6812c42b5885fe2002f747d89549a815835f8e0cd334dbbf74d200ddf3beb9", func := "retort/retortlaw10.CellOnes", spec := "cellOnes", inPlace := ["math.Float64frombits", "math.Float64bits", "math.sqrt"], apart := false, narrowed := true }
def CellOnesUptoSaid : Prop := cellOnesUptoRow.holds Try.pinned (OpenSpec.upto cellOnesSpec)

end Rows
end Go.Proofs.Ytdjenhbglkcapaa
