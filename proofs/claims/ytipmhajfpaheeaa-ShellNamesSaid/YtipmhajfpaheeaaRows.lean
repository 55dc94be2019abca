/-
  No cell of these rows narrows 'for every input' (looked for: loops, veiled, ifaces, maps, wideKeys, modest, calm, conditions, laid).
  DERIVED. THE GIVEN ROWS OF THIS SEAT. 7 by the template 'for every input the law returns true; each argument reads behind the call as it read before'; 0 by the template 'total and deterministic' (their statements: YtipmhajfpaheeaaTotals.lean).
  GIVEN WITH THE SEED: the statements are not yours to turn. If you find one false, say at which input.
  Laid BY PROGRAM, IN A SANDBOX (cutbox-rows.mjs): the forced cells as the released guide's own fill.sh prints them over the translation 6e7352b0ef094dce… (all of the seat's roots in one cut). By AI agents, Wed Nov 11 2026. No macro, syntax, notation, axiom, sorry.
-/
import Derived.Test.YtipmhajfpaheeaaChecked
import GoSem.Claim
import GoSem.ClaimJoined
import GoSem.ClaimMapViews
import Derived.JoinedTies
import Derived.KernelRfl
namespace Go.Proofs.Ytipmhajfpaheeaa
/- THE CELL 'sum', in the pinned program and in every row, IS THE sha256 OF THE DUMP (.gsa) THAT YtipmhajfpaheeaaProg.lean LOADS. Nothing in Lean hashes anything: it is a label: what it is worth is what the hold of that sum in a sandbox is worth. -/
noncomputable def Try.pinned : Pinned := { name := "ytipmhajfpaheeaa", sum := "6e7352b0ef094dce8bb9bfd031a5071d64c63c558682629b422b2f533346e247", checked := Try.checked }
namespace Rows
def none {H : Type} : Left H := { results := [], args := [] }

/-- 'retortlaw10.CellNames': WHATEVER THE INPUT: true; the input reads as it did. -/
def cellNamesSpec : ChangeSpec := { name := "cellNames", fn := fun _ => fun
  | [] => { results := [.lit (.bool true)], args := [] }
  | _ => none }
def cellNamesRow : OpenClaim := { program := "ytipmhajfpaheeaa", sum := "6e7352b0ef094dce8bb9bfd031a5071d64c63c558682629b422b2f533346e247", func := "retort/retortlaw10.CellNames", spec := "cellNames", apart := false }
def CellNamesSaid : Prop := cellNamesRow.holds Try.pinned (OpenSpec.ofChange cellNamesSpec)

/-- ITS FALSE NEIGHBOUR: 'it returns false'. Refute it at one input. -/
def cellNamesWrong : ChangeSpec := { name := "cellNames", fn := fun _ => fun
  | [] => { results := [.lit (.bool false)], args := [] }
  | _ => none }
def CellNamesWrongFalsely : Prop := cellNamesRow.holds Try.pinned (OpenSpec.ofChange cellNamesWrong)

/-- 'retortlaw15.VmNames': WHATEVER THE INPUT: true; the input reads as it did. -/
def vmNamesSpec : ChangeSpec := { name := "vmNames", fn := fun _ => fun
  | [] => { results := [.lit (.bool true)], args := [] }
  | _ => none }
def vmNamesRow : OpenClaim := { program := "ytipmhajfpaheeaa", sum := "6e7352b0ef094dce8bb9bfd031a5071d64c63c558682629b422b2f533346e247", func := "retort/retortlaw15.VmNames", spec := "vmNames", apart := false }
def VmNamesSaid : Prop := vmNamesRow.holds Try.pinned (OpenSpec.ofChange vmNamesSpec)

/-- ITS FALSE NEIGHBOUR: 'it returns false'. Refute it at one input. -/
def vmNamesWrong : ChangeSpec := { name := "vmNames", fn := fun _ => fun
  | [] => { results := [.lit (.bool false)], args := [] }
  | _ => none }
def VmNamesWrongFalsely : Prop := vmNamesRow.holds Try.pinned (OpenSpec.ofChange vmNamesWrong)

/-- 'retortlaw16.OptNames': WHATEVER THE INPUT: true; the input reads as it did. -/
def optNamesSpec : ChangeSpec := { name := "optNames", fn := fun _ => fun
  | [] => { results := [.lit (.bool true)], args := [] }
  | _ => none }
def optNamesRow : OpenClaim := { program := "ytipmhajfpaheeaa", sum := "6e7352b0ef094dce8bb9bfd031a5071d64c63c558682629b422b2f533346e247", func := "retort/retortlaw16.OptNames", spec := "optNames", apart := false }
def OptNamesSaid : Prop := optNamesRow.holds Try.pinned (OpenSpec.ofChange optNamesSpec)

/-- ITS FALSE NEIGHBOUR: 'it returns false'. Refute it at one input. -/
def optNamesWrong : ChangeSpec := { name := "optNames", fn := fun _ => fun
  | [] => { results := [.lit (.bool false)], args := [] }
  | _ => none }
def OptNamesWrongFalsely : Prop := optNamesRow.holds Try.pinned (OpenSpec.ofChange optNamesWrong)

/-- 'retortlaw18.CompNames': WHATEVER THE INPUT: true; the input reads as it did. -/
def compNamesSpec : ChangeSpec := { name := "compNames", fn := fun _ => fun
  | [] => { results := [.lit (.bool true)], args := [] }
  | _ => none }
def compNamesRow : OpenClaim := { program := "ytipmhajfpaheeaa", sum := "6e7352b0ef094dce8bb9bfd031a5071d64c63c558682629b422b2f533346e247", func := "retort/retortlaw18.CompNames", spec := "compNames", apart := false }
def CompNamesSaid : Prop := compNamesRow.holds Try.pinned (OpenSpec.ofChange compNamesSpec)

/-- ITS FALSE NEIGHBOUR: 'it returns false'. Refute it at one input. -/
def compNamesWrong : ChangeSpec := { name := "compNames", fn := fun _ => fun
  | [] => { results := [.lit (.bool false)], args := [] }
  | _ => none }
def CompNamesWrongFalsely : Prop := compNamesRow.holds Try.pinned (OpenSpec.ofChange compNamesWrong)

/-- 'retortlaw17.TongueNames': WHATEVER THE INPUT: true; the input reads as it did. -/
def tongueNamesSpec : ChangeSpec := { name := "tongueNames", fn := fun _ => fun
  | [] => { results := [.lit (.bool true)], args := [] }
  | _ => none }
def tongueNamesRow : OpenClaim := { program := "ytipmhajfpaheeaa", sum := "6e7352b0ef094dce8bb9bfd031a5071d64c63c558682629b422b2f533346e247", func := "retort/retortlaw17.TongueNames", spec := "tongueNames", apart := false }
def TongueNamesSaid : Prop := tongueNamesRow.holds Try.pinned (OpenSpec.ofChange tongueNamesSpec)

/-- ITS FALSE NEIGHBOUR: 'it returns false'. Refute it at one input. -/
def tongueNamesWrong : ChangeSpec := { name := "tongueNames", fn := fun _ => fun
  | [] => { results := [.lit (.bool false)], args := [] }
  | _ => none }
def TongueNamesWrongFalsely : Prop := tongueNamesRow.holds Try.pinned (OpenSpec.ofChange tongueNamesWrong)

/-- 'retortlaw14.AsmNames': WHATEVER THE INPUT: true; the input reads as it did. -/
def asmNamesSpec : ChangeSpec := { name := "asmNames", fn := fun _ => fun
  | [] => { results := [.lit (.bool true)], args := [] }
  | _ => none }
def asmNamesRow : OpenClaim := { program := "ytipmhajfpaheeaa", sum := "6e7352b0ef094dce8bb9bfd031a5071d64c63c558682629b422b2f533346e247", func := "retort/retortlaw14.AsmNames", spec := "asmNames", apart := false }
def AsmNamesSaid : Prop := asmNamesRow.holds Try.pinned (OpenSpec.ofChange asmNamesSpec)

/-- ITS FALSE NEIGHBOUR: 'it returns false'. Refute it at one input. -/
def asmNamesWrong : ChangeSpec := { name := "asmNames", fn := fun _ => fun
  | [] => { results := [.lit (.bool false)], args := [] }
  | _ => none }
def AsmNamesWrongFalsely : Prop := asmNamesRow.holds Try.pinned (OpenSpec.ofChange asmNamesWrong)

/-- 'retortlaw21.ShellNames': WHATEVER THE INPUT: true; the input reads as it did. -/
def shellNamesSpec : ChangeSpec := { name := "shellNames", fn := fun _ => fun
  | [] => { results := [.lit (.bool true)], args := [] }
  | _ => none }
def shellNamesRow : OpenClaim := { program := "ytipmhajfpaheeaa", sum := "6e7352b0ef094dce8bb9bfd031a5071d64c63c558682629b422b2f533346e247", func := "retort/retortlaw21.ShellNames", spec := "shellNames", apart := false }
def ShellNamesSaid : Prop := shellNamesRow.holds Try.pinned (OpenSpec.ofChange shellNamesSpec)

/-- ITS FALSE NEIGHBOUR: 'it returns false'. Refute it at one input. -/
def shellNamesWrong : ChangeSpec := { name := "shellNames", fn := fun _ => fun
  | [] => { results := [.lit (.bool false)], args := [] }
  | _ => none }
def ShellNamesWrongFalsely : Prop := shellNamesRow.holds Try.pinned (OpenSpec.ofChange shellNamesWrong)

/- THE SECOND FORM. 'bulk': how many values and letters a reading holds, each counted each time it is reached (what is shared counts as often as it is met; a slice's spare places count too). A statement '..UptoSaid' is the law's where the arguments, and the package variables that the reading takes, are together of bulk at most 1048576: NARROWER than '..Said'. Prove '..Said' where nothing that the law and all that it calls make is longer than what came in: it says more and counts as full. Else prove '..UptoSaid'. A law counts once. -/
mutual
def uptoBulk {H : Type} : DataW H → Nat
  | .lit (.string bytes) => bytes.length + 1
  | .lit _ => 1
  | .nil => 1
  | .ptr d => uptoBulk d + 1
  | .slice elems spare => uptoBulkAll elems + uptoBulkAll spare + 1
  | .agg parts => uptoBulkAll parts + 1
  | .iface _ d => uptoBulk d + 1
  | .map entries => uptoBulkEntries entries + 1
  | .held _ => 1
def uptoBulkAll {H : Type} : List (DataW H) → Nat
  | [] => 0
  | d :: r => uptoBulk d + uptoBulkAll r
def uptoBulkEntries {H : Type} : List (Lit × DataW H) → Nat
  | [] => 0
  | x :: r => uptoBulkEntry x + uptoBulkEntries r
def uptoBulkEntry {H : Type} : Lit × DataW H → Nat
  | (.string bytes, d) => bytes.length + uptoBulk d + 1
  | (_, d) => uptoBulk d + 1
 end
def uptoSmall : (H : Type) → List (DataW H) → Bool := fun _ ds => decide (uptoBulkAll ds ≤ 1048576)
def OpenSpec.upto (s : _root_.Go.ChangeSpec) : _root_.Go.OpenSpec := { _root_.Go.OpenSpec.ofChange s with cond := some uptoSmall }

/-- 'retortlaw10.CellNames', WHERE WHAT IT READS IS OF BULK AT MOST 1048576: true; the input reads as it did. -/
def cellNamesUptoRow : OpenClaim := { program := "ytipmhajfpaheeaa", sum := "6e7352b0ef094dce8bb9bfd031a5071d64c63c558682629b422b2f533346e247", func := "retort/retortlaw10.CellNames", spec := "cellNames", apart := false, narrowed := true }
def CellNamesUptoSaid : Prop := cellNamesUptoRow.holds Try.pinned (OpenSpec.upto cellNamesSpec)

/-- 'retortlaw15.VmNames', WHERE WHAT IT READS IS OF BULK AT MOST 1048576: true; the input reads as it did. -/
def vmNamesUptoRow : OpenClaim := { program := "ytipmhajfpaheeaa", sum := "6e7352b0ef094dce8bb9bfd031a5071d64c63c558682629b422b2f533346e247", func := "retort/retortlaw15.VmNames", spec := "vmNames", apart := false, narrowed := true }
def VmNamesUptoSaid : Prop := vmNamesUptoRow.holds Try.pinned (OpenSpec.upto vmNamesSpec)

/-- 'retortlaw16.OptNames', WHERE WHAT IT READS IS OF BULK AT MOST 1048576: true; the input reads as it did. -/
def optNamesUptoRow : OpenClaim := { program := "ytipmhajfpaheeaa", sum := "6e7352b0ef094dce8bb9bfd031a5071d64c63c558682629b422b2f533346e247", func := "retort/retortlaw16.OptNames", spec := "optNames", apart := false, narrowed := true }
def OptNamesUptoSaid : Prop := optNamesUptoRow.holds Try.pinned (OpenSpec.upto optNamesSpec)

/-- 'retortlaw18.CompNames', WHERE WHAT IT READS IS OF BULK AT MOST 1048576: true; the input reads as it did. -/
def compNamesUptoRow : OpenClaim := { program := "ytipmhajfpaheeaa", sum := "6e7352b0ef094dce8bb9bfd031a5071d64c63c558682629b422b2f533346e247", func := "retort/retortlaw18.CompNames", spec := "compNames", apart := false, narrowed := true }
def CompNamesUptoSaid : Prop := compNamesUptoRow.holds Try.pinned (OpenSpec.upto compNamesSpec)

/-- 'retortlaw17.TongueNames', WHERE WHAT IT READS IS OF BULK AT MOST 1048576: true; the input reads as it did. -/
def tongueNamesUptoRow : OpenClaim := { program := "ytipmhajfpaheeaa", sum := "6e7352b0ef094dce8bb9bfd031a5071d64c63c558682629b422b2f533346e247", func := "retort/retortlaw17.TongueNames", spec := "tongueNames", apart := false, narrowed := true }
def TongueNamesUptoSaid : Prop := tongueNamesUptoRow.holds Try.pinned (OpenSpec.upto tongueNamesSpec)

/-- 'retortlaw14.AsmNames', WHERE WHAT IT READS IS OF BULK AT MOST 1048576: true; the input reads as it did. -/
def asmNamesUptoRow : OpenClaim := { program := "ytipmhajfpaheeaa", sum := "6e7352b0ef094dce8bb9bfd031a5071d64c63c558682629b422b2f533346e247", func := "retort/retortlaw14.AsmNames", spec := "asmNames", apart := false, narrowed := true }
def AsmNamesUptoSaid : Prop := asmNamesUptoRow.holds Try.pinned (OpenSpec.upto asmNamesSpec)

/-- 'retortlaw21.ShellNames', WHERE WHAT IT READS IS OF BULK AT MOST 1048576: true; the input reads as it did. -/
def shellNamesUptoRow : OpenClaim := { program := "ytipmhajfpaheeaa", sum := "6e7352b0ef094dce8bb9bfd031a5071d64c63c558682629b422b2f533346e247", func := "retort/retortlaw21.ShellNames", spec := "shellNames", apart := false, narrowed := true }
def ShellNamesUptoSaid : Prop := shellNamesUptoRow.holds Try.pinned (OpenSpec.upto shellNamesSpec)

end Rows
end Go.Proofs.Ytipmhajfpaheeaa
