/-
  No cell of these rows narrows 'for every input' (looked for: loops, veiled, ifaces, maps, wideKeys, modest, calm, conditions, laid).
  DERIVED. THE GIVEN ROWS OF THIS SEAT. 5 by the template 'for every input the law returns true; each argument reads behind the call as it read before'; 0 by the template 'total and deterministic' (their statements: YtecaolkbllbokaaTotals.lean).
  GIVEN WITH THE SEED: the statements are not yours to turn. If you find one false, say at which input.
  Laid BY PROGRAM, IN A SANDBOX (cutbox-rows.mjs): the forced cells as the released guide's own fill.sh prints them over the translation 2cbce97d67fcbc19… (all of the seat's roots in one cut). By AI agents, Wed Nov 11 2026. No macro, syntax, notation, axiom, sorry.
-/
import Derived.Test.YtecaolkbllbokaaChecked
import GoSem.Claim
import GoSem.ClaimJoined
import GoSem.ClaimMapViews
import Derived.JoinedTies
import Derived.KernelRfl
namespace Go.Proofs.Ytecaolkbllbokaa
/- THE CELL 'sum', in the pinned program and in every row, IS THE sha256 OF THE DUMP (.gsa) THAT YtecaolkbllbokaaProg.lean LOADS. Nothing in Lean hashes anything: it is a label: what it is worth is what the hold of that sum in a sandbox is worth. -/
noncomputable def Try.pinned : Pinned := { name := "ytecaolkbllbokaa", sum := "2cbce97d67fcbc191b5f4ee5e0b1f2d8bc0d7e6e65934e6a6f057178d43dd206", checked := Try.checked }
namespace Rows
def none {H : Type} : Left H := { results := [], args := [] }

/-- 'retortlaw18.CompRuns': WHATEVER THE INPUT: true; the input reads as it did. -/
def compRunsSpec : ChangeSpec := { name := "compRuns", fn := fun _ => fun
  | [d1, d2] => { results := [.lit (.bool true)], args := [d1, d2] }
  | _ => none }
def compRunsRow : OpenClaim := { program := "ytecaolkbllbokaa", sum := "2cbce97d67fcbc191b5f4ee5e0b1f2d8bc0d7e6e65934e6a6f057178d43dd206", func := "retort/retortlaw18.CompRuns", spec := "compRuns", unfollowed := true, recurses := true, apart := false }
def CompRunsSaid : Prop := compRunsRow.holds Try.pinned (OpenSpec.ofChange compRunsSpec)

/-- ITS FALSE NEIGHBOUR: 'it returns false'. Refute it at one input. -/
def compRunsWrong : ChangeSpec := { name := "compRuns", fn := fun _ => fun
  | [d1, d2] => { results := [.lit (.bool false)], args := [d1, d2] }
  | _ => none }
def CompRunsWrongFalsely : Prop := compRunsRow.holds Try.pinned (OpenSpec.ofChange compRunsWrong)

/-- 'retortlaw18.CompOrigins': WHATEVER THE INPUT: true; the input reads as it did. -/
def compOriginsSpec : ChangeSpec := { name := "compOrigins", fn := fun _ => fun
  | [d] => { results := [.lit (.bool true)], args := [d] }
  | _ => none }
def compOriginsRow : OpenClaim := { program := "ytecaolkbllbokaa", sum := "2cbce97d67fcbc191b5f4ee5e0b1f2d8bc0d7e6e65934e6a6f057178d43dd206", func := "retort/retortlaw18.CompOrigins", spec := "compOrigins", unfollowed := true, recurses := true, apart := false }
def CompOriginsSaid : Prop := compOriginsRow.holds Try.pinned (OpenSpec.ofChange compOriginsSpec)

/-- ITS FALSE NEIGHBOUR: 'it returns false'. Refute it at one input. -/
def compOriginsWrong : ChangeSpec := { name := "compOrigins", fn := fun _ => fun
  | [d] => { results := [.lit (.bool false)], args := [d] }
  | _ => none }
def CompOriginsWrongFalsely : Prop := compOriginsRow.holds Try.pinned (OpenSpec.ofChange compOriginsWrong)

/-- 'retortlaw18.CompFuels': WHATEVER THE INPUT: true; the input reads as it did. -/
def compFuelsSpec : ChangeSpec := { name := "compFuels", fn := fun _ => fun
  | [d] => { results := [.lit (.bool true)], args := [d] }
  | _ => none }
def compFuelsRow : OpenClaim := { program := "ytecaolkbllbokaa", sum := "2cbce97d67fcbc191b5f4ee5e0b1f2d8bc0d7e6e65934e6a6f057178d43dd206", func := "retort/retortlaw18.CompFuels", spec := "compFuels", unfollowed := true, recurses := true, apart := false }
def CompFuelsSaid : Prop := compFuelsRow.holds Try.pinned (OpenSpec.ofChange compFuelsSpec)

/-- ITS FALSE NEIGHBOUR: 'it returns false'. Refute it at one input. -/
def compFuelsWrong : ChangeSpec := { name := "compFuels", fn := fun _ => fun
  | [d] => { results := [.lit (.bool false)], args := [d] }
  | _ => none }
def CompFuelsWrongFalsely : Prop := compFuelsRow.holds Try.pinned (OpenSpec.ofChange compFuelsWrong)

/-- 'retortlaw18.CompBook': WHATEVER THE INPUT: true; the input reads as it did. -/
def compBookSpec : ChangeSpec := { name := "compBook", fn := fun _ => fun
  | [d1, d2] => { results := [.lit (.bool true)], args := [d1, d2] }
  | _ => none }
def compBookRow : OpenClaim := { program := "ytecaolkbllbokaa", sum := "2cbce97d67fcbc191b5f4ee5e0b1f2d8bc0d7e6e65934e6a6f057178d43dd206", func := "retort/retortlaw18.CompBook", spec := "compBook", unfollowed := true, recurses := true, apart := false }
def CompBookSaid : Prop := compBookRow.holds Try.pinned (OpenSpec.ofChange compBookSpec)

/-- ITS FALSE NEIGHBOUR: 'it returns false'. Refute it at one input. -/
def compBookWrong : ChangeSpec := { name := "compBook", fn := fun _ => fun
  | [d1, d2] => { results := [.lit (.bool false)], args := [d1, d2] }
  | _ => none }
def CompBookWrongFalsely : Prop := compBookRow.holds Try.pinned (OpenSpec.ofChange compBookWrong)

/-- 'retortlaw18.CompTaken': WHATEVER THE INPUT: true; the input reads as it did. -/
def compTakenSpec : ChangeSpec := { name := "compTaken", fn := fun _ => fun
  | [d1, d2] => { results := [.lit (.bool true)], args := [d1, d2] }
  | _ => none }
def compTakenRow : OpenClaim := { program := "ytecaolkbllbokaa", sum := "2cbce97d67fcbc191b5f4ee5e0b1f2d8bc0d7e6e65934e6a6f057178d43dd206", func := "retort/retortlaw18.CompTaken", spec := "compTaken", unfollowed := true, recurses := true, apart := false }
def CompTakenSaid : Prop := compTakenRow.holds Try.pinned (OpenSpec.ofChange compTakenSpec)

/-- ITS FALSE NEIGHBOUR: 'it returns false'. Refute it at one input. -/
def compTakenWrong : ChangeSpec := { name := "compTaken", fn := fun _ => fun
  | [d1, d2] => { results := [.lit (.bool false)], args := [d1, d2] }
  | _ => none }
def CompTakenWrongFalsely : Prop := compTakenRow.holds Try.pinned (OpenSpec.ofChange compTakenWrong)

/- THE SECOND FORM. 'bulk': how many values and letters a reading holds, each counted each time it is reached (what is shared counts as often as it is met; a slice's spare places count too). A statement '..UptoSaid' is the law's where the arguments, and the package variables that the reading takes, are together of bulk at most 1048576: NARROWER than '..Said'. Prove '..Said' where nothing that the law and all that it calls make is longer than what came in: it says more and counts as full. Else prove '..UptoSaid'. A law counts once. -/
mutual
def uptoBulk {H : Type} : DataW H → Nat
  | .lit (.string bytes) => bytes.length + 1
  | .lit _ => 1
  | .nil => 1
  | .ptr d => uptoBulk d + 1
  | .slice elems spare => uptoBulkAll elems + uptoBulkAll spare + 1
  | .agg parts => uptoBulkAll parts + 1
  | .iface _ d => uptoBulk d + 1
  | .map entries => uptoBulkEntries entries + 1
  | .held _ => 1
def uptoBulkAll {H : Type} : List (DataW H) → Nat
  | [] => 0
  | d :: r => uptoBulk d + uptoBulkAll r
def uptoBulkEntries {H : Type} : List (Lit × DataW H) → Nat
  | [] => 0
  | x :: r => uptoBulkEntry x + uptoBulkEntries r
def uptoBulkEntry {H : Type} : Lit × DataW H → Nat
  | (.string bytes, d) => bytes.length + uptoBulk d + 1
  | (_, d) => uptoBulk d + 1
 end
def uptoSmall : (H : Type) → List (DataW H) → Bool := fun _ ds => decide (uptoBulkAll ds ≤ 1048576)
def OpenSpec.upto (s : _root_.Go.ChangeSpec) : _root_.Go.OpenSpec := { _root_.Go.OpenSpec.ofChange s with cond := some uptoSmall }

/-- 'retortlaw18.CompRuns', WHERE WHAT IT READS IS OF BULK AT MOST 1048576: true; the input reads as it did. -/
def compRunsUptoRow : OpenClaim := { program := "ytecaolkbllbokaa", sum := "2cbce97d67fcbc191b5f4ee5e0b1f2d8bc0d7e6e65934e6a6f057178d43dd206", func := "retort/retortlaw18.CompRuns", spec := "compRuns", unfollowed := true, recurses := true, apart := false, narrowed := true }
def CompRunsUptoSaid : Prop := compRunsUptoRow.holds Try.pinned (OpenSpec.upto compRunsSpec)

/-- 'retortlaw18.CompOrigins', WHERE WHAT IT READS IS OF BULK AT MOST 1048576: true; the input reads as it did. -/
def compOriginsUptoRow : OpenClaim := { program := "ytecaolkbllbokaa", sum := "2cbce97d67fcbc191b5f4ee5e0b1f2d8bc0d7e6e65934e6a6f057178d43dd206", func := "retort/retortlaw18.CompOrigins", spec := "compOrigins", unfollowed := true, recurses := true, apart := false, narrowed := true }
def CompOriginsUptoSaid : Prop := compOriginsUptoRow.holds Try.pinned (OpenSpec.upto compOriginsSpec)

/-- 'retortlaw18.CompFuels', WHERE WHAT IT READS IS OF BULK AT MOST 1048576: true; the input reads as it did. -/
def compFuelsUptoRow : OpenClaim := { program := "ytecaolkbllbokaa", sum := "2cbce97d67fcbc191b5f4ee5e0b1f2d8bc0d7e6e65934e6a6f057178d43dd206", func := "retort/retortlaw18.CompFuels", spec := "compFuels", unfollowed := true, recurses := true, apart := false, narrowed := true }
def CompFuelsUptoSaid : Prop := compFuelsUptoRow.holds Try.pinned (OpenSpec.upto compFuelsSpec)

/-- 'retortlaw18.CompBook', WHERE WHAT IT READS IS OF BULK AT MOST 1048576: true; the input reads as it did. -/
def compBookUptoRow : OpenClaim := { program := "ytecaolkbllbokaa", sum := "2cbce97d67fcbc191b5f4ee5e0b1f2d8bc0d7e6e65934e6a6f057178d43dd206", func := "retort/retortlaw18.CompBook", spec := "compBook", unfollowed := true, recurses := true, apart := false, narrowed := true }
def CompBookUptoSaid : Prop := compBookUptoRow.holds Try.pinned (OpenSpec.upto compBookSpec)

/-- 'retortlaw18.CompTaken', WHERE WHAT IT READS IS OF BULK AT MOST 1048576: true; the input reads as it did. -/
def compTakenUptoRow : OpenClaim := { program := "ytecaolkbllbokaa", sum := "2cbce97d67fcbc191b5f4ee5e0b1f2d8bc0d7e6e65934e6a6f057178d43dd206", func := "retort/retortlaw18.CompTaken", spec := "compTaken", unfollowed := true, recurses := true, apart := false, narrowed := true }
def CompTakenUptoSaid : Prop := compTakenUptoRow.holds Try.pinned (OpenSpec.upto compTakenSpec)

end Rows
end Go.Proofs.Ytecaolkbllbokaa
