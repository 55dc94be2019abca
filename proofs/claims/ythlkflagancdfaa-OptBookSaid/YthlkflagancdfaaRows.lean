/-
  No cell of these rows narrows 'for every input' (looked for: loops, veiled, ifaces, maps, wideKeys, modest, calm, conditions, laid).
  DERIVED. THE GIVEN ROWS OF THIS SEAT. 3 by the template 'for every input the law returns true; each argument reads behind the call as it read before'; 0 by the template 'total and deterministic' (their statements: YthlkflagancdfaaTotals.lean).
  GIVEN WITH THE SEED: the statements are not yours to turn. If you find one false, say at which input.
  Laid BY PROGRAM, IN A SANDBOX (cutbox-rows.mjs): the forced cells as the released guide's own fill.sh prints them over the translation edfbbd3e59c9dd09… (all of the seat's roots in one cut). By AI agents, Wed Nov 11 2026. No macro, syntax, notation, axiom, sorry.
-/
import Derived.Test.YthlkflagancdfaaChecked
import GoSem.Claim
import GoSem.ClaimJoined
import GoSem.ClaimMapViews
import Derived.JoinedTies
import Derived.KernelRfl
namespace Go.Proofs.Ythlkflagancdfaa
/- THE CELL 'sum', in the pinned program and in every row, IS THE sha256 OF THE DUMP (.gsa) THAT YthlkflagancdfaaProg.lean LOADS. Nothing in Lean hashes anything: it is a label: what it is worth is what the hold of that sum in a sandbox is worth. -/
noncomputable def Try.pinned : Pinned := { name := "ythlkflagancdfaa", sum := "edfbbd3e59c9dd09c72fa845267ae6934abe9e20d16cddadf5d57fe367cebc53", checked := Try.checked }
namespace Rows
def none {H : Type} : Left H := { results := [], args := [] }

/-- 'retortlaw16.OptBest': WHATEVER THE INPUT: true; the input reads as it did. -/
def optBestSpec : ChangeSpec := { name := "optBest", fn := fun _ => fun
  | [d] => { results := [.lit (.bool true)], args := [d] }
  | _ => none }
def optBestRow : OpenClaim := { program := "ythlkflagancdfaa", sum := "edfbbd3e59c9dd09c72fa845267ae6934abe9e20d16cddadf5d57fe367cebc53", func := "retort/retortlaw16.OptBest", spec := "optBest", inPlace := ["math.Float64frombits", "math.Float64bits", "math.sqrt"], unfollowed := true, recurses := true, apart := false }
def OptBestSaid : Prop := optBestRow.holds Try.pinned (OpenSpec.ofChange optBestSpec)

/-- ITS FALSE NEIGHBOUR: 'it returns false'. Refute it at one input. -/
def optBestWrong : ChangeSpec := { name := "optBest", fn := fun _ => fun
  | [d] => { results := [.lit (.bool false)], args := [d] }
  | _ => none }
def OptBestWrongFalsely : Prop := optBestRow.holds Try.pinned (OpenSpec.ofChange optBestWrong)

/-- 'retortlaw16.OptLong': WHATEVER THE INPUT: true; the input reads as it did. -/
def optLongSpec : ChangeSpec := { name := "optLong", fn := fun _ => fun
  | [d1, d2, d3] => { results := [.lit (.bool true)], args := [d1, d2, d3] }
  | _ => none }
def optLongRow : OpenClaim := { program := "ythlkflagancdfaa", sum := "edfbbd3e59c9dd09c72fa845267ae6934abe9e20d16cddadf5d57fe367cebc53", func := "retort/retortlaw16.OptLong", spec := "optLong", inPlace := ["math.Float64frombits", "math.Float64bits", "math.sqrt"], unfollowed := true, recurses := true, apart := false }
def OptLongSaid : Prop := optLongRow.holds Try.pinned (OpenSpec.ofChange optLongSpec)

/-- ITS FALSE NEIGHBOUR: 'it returns false'. Refute it at one input. -/
def optLongWrong : ChangeSpec := { name := "optLong", fn := fun _ => fun
  | [d1, d2, d3] => { results := [.lit (.bool false)], args := [d1, d2, d3] }
  | _ => none }
def OptLongWrongFalsely : Prop := optLongRow.holds Try.pinned (OpenSpec.ofChange optLongWrong)

/-- 'retortlaw16.OptBook': WHATEVER THE INPUT: true; the input reads as it did. -/
def optBookSpec : ChangeSpec := { name := "optBook", fn := fun _ => fun
  | [d] => { results := [.lit (.bool true)], args := [d] }
  | _ => none }
def optBookRow : OpenClaim := { program := "ythlkflagancdfaa", sum := "edfbbd3e59c9dd09c72fa845267ae6934abe9e20d16cddadf5d57fe367cebc53", func := "retort/retortlaw16.OptBook", spec := "optBook", inPlace := ["math.Float64frombits", "math.Float64bits", "math.sqrt"], unfollowed := true, recurses := true, apart := false }
def OptBookSaid : Prop := optBookRow.holds Try.pinned (OpenSpec.ofChange optBookSpec)

/-- ITS FALSE NEIGHBOUR: 'it returns false'. Refute it at one input. -/
def optBookWrong : ChangeSpec := { name := "optBook", fn := fun _ => fun
  | [d] => { results := [.lit (.bool false)], args := [d] }
  | _ => none }
def OptBookWrongFalsely : Prop := optBookRow.holds Try.pinned (OpenSpec.ofChange optBookWrong)

/- THE SECOND FORM. 'bulk': how many values and letters a reading holds, each counted each time it is reached (what is shared counts as often as it is met; a slice's spare places count too). A statement '..UptoSaid' is the law's where the arguments, and the package variables that the reading takes, are together of bulk at most 1048576: NARROWER than '..Said'. Prove '..Said' where nothing that the law and all that it calls make is longer than what came in: it says more and counts as full. Else prove '..UptoSaid'. A law counts once. -/
mutual
def uptoBulk {H : Type} : DataW H → Nat
  | .lit (.string bytes) => bytes.length + 1
  | .lit _ => 1
  | .nil => 1
  | .ptr d => uptoBulk d + 1
  | .slice elems spare => uptoBulkAll elems + uptoBulkAll spare + 1
  | .agg parts => uptoBulkAll parts + 1
  | .iface _ d => uptoBulk d + 1
  | .map entries => uptoBulkEntries entries + 1
  | .held _ => 1
def uptoBulkAll {H : Type} : List (DataW H) → Nat
  | [] => 0
  | d :: r => uptoBulk d + uptoBulkAll r
def uptoBulkEntries {H : Type} : List (Lit × DataW H) → Nat
  | [] => 0
  | x :: r => uptoBulkEntry x + uptoBulkEntries r
def uptoBulkEntry {H : Type} : Lit × DataW H → Nat
  | (.string bytes, d) => bytes.length + uptoBulk d + 1
  | (_, d) => uptoBulk d + 1
 end
def uptoSmall : (H : Type) → List (DataW H) → Bool := fun _ ds => decide (uptoBulkAll ds ≤ 1048576)
def OpenSpec.upto (s : _root_.Go.ChangeSpec) : _root_.Go.OpenSpec := { _root_.Go.OpenSpec.ofChange s with cond := some uptoSmall }

/-- 'retortlaw16.OptBest', WHERE WHAT IT READS IS OF BULK AT MOST 1048576: true; the input reads as it did. -/
def optBestUptoRow : OpenClaim := { program := "ythlkflagancdfaa", sum := "edfbbd3e59c9dd09c72fa845267ae6934abe9e20d16cddadf5d57fe367cebc53", func := "retort/retortlaw16.OptBest", spec := "optBest", inPlace := ["math.Float64frombits", "math.Float64bits", "math.sqrt"], unfollowed := true, recurses := true, apart := false, narrowed := true }
def OptBestUptoSaid : Prop := optBestUptoRow.holds Try.pinned (OpenSpec.upto optBestSpec)

/-- 'retortlaw16.OptLong', WHERE WHAT IT READS IS OF BULK AT MOST 1048576: true; the input reads as it did. -/
def optLongUptoRow : OpenClaim := { program := "ythlkflagancdfaa", sum := "edfbbd3e59c9dd09c72fa845267ae6934abe9e20d16cddadf5d57fe367cebc53", func := "retort/retortlaw16.OptLong", spec := "optLong", inPlace := ["math.Float64frombits", "math.Float64bits", "math.sqrt"], unfollowed := true, recurses := true, apart := false, narrowed := true }
def OptLongUptoSaid : Prop := optLongUptoRow.holds Try.pinned (OpenSpec.upto optLongSpec)

/-- 'retortlaw16.OptBook', WHERE WHAT IT READS IS OF BULK AT MOST 1048576: true; the input reads as it did. -/
def optBookUptoRow : OpenClaim := { program := "ythlkflagancdfaa", sum := "edfbbd3e59c9dd09c72fa845267ae6934abe9e20d16cddadf5d57fe367cebc53", func := "retort/retortlaw16.OptBook", spec := "optBook", inPlace := ["math.Float64frombits", "math.Float64bits", "math.sqrt"], unfollowed := true, recurses := true, apart := false, narrowed := true }
def OptBookUptoSaid : Prop := optBookUptoRow.holds Try.pinned (OpenSpec.upto optBookSpec)

end Rows
end Go.Proofs.Ythlkflagancdfaa
