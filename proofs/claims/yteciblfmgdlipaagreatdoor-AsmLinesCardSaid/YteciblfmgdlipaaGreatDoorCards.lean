/-
  DERIVED. GIVEN WITH THE SEED: THE CARDS: each row of YteciblfmgdlipaaGreatDoorRows.lean that lists a variable, with what it lists TIED to the program's text (the seventh form; the later family's looks); each row that meets fmt, with fmt's text TOLD by the authors' own Lean function (tested against real Go, not proved from fmt's source: count such statements apart). THE CARD IS WHAT COUNTS. Prove the row's statement (the work); the ties are given (YteciblfmgdlipaaGreatDoorTie.lean); close each card by the builder's one call (the guide's Derived/Test/ToyasCard.lean, 'card_holds'). Laid BY PROGRAM, IN A SANDBOX (cutbox-door.mjs). By AI agents, Wed Nov 11 2026. No macro, syntax, notation, axiom, sorry.
-/
import Derived.Test.YteciblfmgdlipaaGreatDoorRows
import GoSem.ClaimSeven
namespace Go.Proofs.YteciblfmgdlipaaGreatDoor
namespace Rows

/-- THE TIED CARD OF 'retortlaw14.AsmParses'. -/
def asmParsesCard : Claim7 := { stood := { row := asmParsesRow, standIns := [], harness := (true, "9ee309cc005af9431f3b5ee823ac730000b2acd4b8bbc7a3aa8971841bf4bb7c"), looks := true }, kinds := [], alts := [], laidByText := true, laidKinds := [.data, .data, .data, .data, .sentinel, .sentinel, .pinned], laidTests := true, laidLooks := .later }
def AsmParsesCardSaid : Prop := Claim7.holds Tryz.pinned (.plain (OpenSpec.ofChange asmParsesSpec)) asmParsesCard

/-- THE TIED CARD OF 'retortlaw14.AsmLines'. -/
def asmLinesCard : Claim7 := { stood := { row := asmLinesRow, standIns := [], harness := (true, "9ee309cc005af9431f3b5ee823ac730000b2acd4b8bbc7a3aa8971841bf4bb7c"), looks := true }, kinds := [], alts := [], laidByText := true, laidKinds := [.data, .data, .data, .data, .sentinel, .sentinel, .pinned], laidTests := true, laidLooks := .later }
def AsmLinesCardSaid : Prop := Claim7.holds Tryz.pinned (.plain (OpenSpec.ofChange asmLinesSpec)) asmLinesCard

/-- THE TIED CARD OF 'retortlaw14.AsmPrints'. -/
def asmPrintsCard : Claim7 := { stood := { row := asmPrintsRow, standIns := [], harness := (true, "9ee309cc005af9431f3b5ee823ac730000b2acd4b8bbc7a3aa8971841bf4bb7c"), looks := true }, kinds := [], alts := [], laidByText := true, laidKinds := [.data, .data, .data, .data, .sentinel, .sentinel, .pinned], laidTests := true, laidLooks := .later }
def AsmPrintsCardSaid : Prop := Claim7.holds Tryz.pinned (.plain (OpenSpec.ofChange asmPrintsSpec)) asmPrintsCard

/-- THE TIED CARD OF 'retortlaw14.AsmLong'. -/
def asmLongCard : Claim7 := { stood := { row := asmLongRow, standIns := [], harness := (true, "9ee309cc005af9431f3b5ee823ac730000b2acd4b8bbc7a3aa8971841bf4bb7c"), looks := true }, kinds := [], alts := [], laidByText := true, laidKinds := [.data, .data, .data, .data, .sentinel, .sentinel, .pinned], laidTests := true, laidLooks := .later }
def AsmLongCardSaid : Prop := Claim7.holds Tryz.pinned (.plain (OpenSpec.ofChange asmLongSpec)) asmLongCard

/-- THE TIED CARD OF 'retortlaw14.AsmBack'. -/
def asmBackCard : Claim7 := { stood := { row := asmBackRow, standIns := [], harness := (true, "9ee309cc005af9431f3b5ee823ac730000b2acd4b8bbc7a3aa8971841bf4bb7c"), looks := true }, kinds := [], alts := [], laidByText := true, laidKinds := [.data, .data, .data, .data, .sentinel, .sentinel, .pinned], laidTests := true, laidLooks := .later }
def AsmBackCardSaid : Prop := Claim7.holds Tryz.pinned (.plain (OpenSpec.ofChange asmBackSpec)) asmBackCard

/-- THE TIED CARD OF 'retortlaw14.AsmRewrites'. -/
def asmRewritesCard : Claim7 := { stood := { row := asmRewritesRow, standIns := [], harness := (true, "9ee309cc005af9431f3b5ee823ac730000b2acd4b8bbc7a3aa8971841bf4bb7c"), looks := true }, kinds := [], alts := [], laidByText := true, laidKinds := [.data, .data, .data, .data, .sentinel, .sentinel, .pinned], laidTests := true, laidLooks := .later }
def AsmRewritesCardSaid : Prop := Claim7.holds Tryz.pinned (.plain (OpenSpec.ofChange asmRewritesSpec)) asmRewritesCard

/-- THE TIED CARD OF 'retortlaw14.AsmLonger'. -/
def asmLongerCard : Claim7 := { stood := { row := asmLongerRow, standIns := [], harness := (true, "9ee309cc005af9431f3b5ee823ac730000b2acd4b8bbc7a3aa8971841bf4bb7c"), looks := true }, kinds := [], alts := [], laidByText := true, laidKinds := [.data, .data, .data, .data, .sentinel, .sentinel, .pinned], laidTests := true, laidLooks := .later }
def AsmLongerCardSaid : Prop := Claim7.holds Tryz.pinned (.plain (OpenSpec.ofChange asmLongerSpec)) asmLongerCard

/-- THE TIED CARD OF 'retortlaw14.AsmOwn'. -/
def asmOwnCard : Claim7 := { stood := { row := asmOwnRow, standIns := [], harness := (true, "9ee309cc005af9431f3b5ee823ac730000b2acd4b8bbc7a3aa8971841bf4bb7c"), looks := true }, kinds := [], alts := [], laidByText := true, laidKinds := [.data, .data, .data, .data, .sentinel, .sentinel, .pinned], laidTests := true, laidLooks := .later }
def AsmOwnCardSaid : Prop := Claim7.holds Tryz.pinned (.plain (OpenSpec.ofChange asmOwnSpec)) asmOwnCard

/-- THE SECOND FORM's CARD OF 'retortlaw14.AsmParses'. -/
def asmParsesUptoCard : Claim7 := { stood := { row := asmParsesUptoRow, standIns := [], harness := (true, "9ee309cc005af9431f3b5ee823ac730000b2acd4b8bbc7a3aa8971841bf4bb7c"), looks := true }, kinds := [], alts := [], laidByText := true, laidKinds := [.data, .data, .data, .data, .sentinel, .sentinel, .pinned], laidTests := true, laidLooks := .later }
def AsmParsesUptoCardSaid : Prop := Claim7.holds Tryz.pinned (.plain (OpenSpec.upto asmParsesSpec)) asmParsesUptoCard

/-- THE SECOND FORM's CARD OF 'retortlaw14.AsmLines'. -/
def asmLinesUptoCard : Claim7 := { stood := { row := asmLinesUptoRow, standIns := [], harness := (true, "9ee309cc005af9431f3b5ee823ac730000b2acd4b8bbc7a3aa8971841bf4bb7c"), looks := true }, kinds := [], alts := [], laidByText := true, laidKinds := [.data, .data, .data, .data, .sentinel, .sentinel, .pinned], laidTests := true, laidLooks := .later }
def AsmLinesUptoCardSaid : Prop := Claim7.holds Tryz.pinned (.plain (OpenSpec.upto asmLinesSpec)) asmLinesUptoCard

/-- THE SECOND FORM's CARD OF 'retortlaw14.AsmPrints'. -/
def asmPrintsUptoCard : Claim7 := { stood := { row := asmPrintsUptoRow, standIns := [], harness := (true, "9ee309cc005af9431f3b5ee823ac730000b2acd4b8bbc7a3aa8971841bf4bb7c"), looks := true }, kinds := [], alts := [], laidByText := true, laidKinds := [.data, .data, .data, .data, .sentinel, .sentinel, .pinned], laidTests := true, laidLooks := .later }
def AsmPrintsUptoCardSaid : Prop := Claim7.holds Tryz.pinned (.plain (OpenSpec.upto asmPrintsSpec)) asmPrintsUptoCard

/-- THE SECOND FORM's CARD OF 'retortlaw14.AsmLong'. -/
def asmLongUptoCard : Claim7 := { stood := { row := asmLongUptoRow, standIns := [], harness := (true, "9ee309cc005af9431f3b5ee823ac730000b2acd4b8bbc7a3aa8971841bf4bb7c"), looks := true }, kinds := [], alts := [], laidByText := true, laidKinds := [.data, .data, .data, .data, .sentinel, .sentinel, .pinned], laidTests := true, laidLooks := .later }
def AsmLongUptoCardSaid : Prop := Claim7.holds Tryz.pinned (.plain (OpenSpec.upto asmLongSpec)) asmLongUptoCard

/-- THE SECOND FORM's CARD OF 'retortlaw14.AsmBack'. -/
def asmBackUptoCard : Claim7 := { stood := { row := asmBackUptoRow, standIns := [], harness := (true, "9ee309cc005af9431f3b5ee823ac730000b2acd4b8bbc7a3aa8971841bf4bb7c"), looks := true }, kinds := [], alts := [], laidByText := true, laidKinds := [.data, .data, .data, .data, .sentinel, .sentinel, .pinned], laidTests := true, laidLooks := .later }
def AsmBackUptoCardSaid : Prop := Claim7.holds Tryz.pinned (.plain (OpenSpec.upto asmBackSpec)) asmBackUptoCard

/-- THE SECOND FORM's CARD OF 'retortlaw14.AsmRewrites'. -/
def asmRewritesUptoCard : Claim7 := { stood := { row := asmRewritesUptoRow, standIns := [], harness := (true, "9ee309cc005af9431f3b5ee823ac730000b2acd4b8bbc7a3aa8971841bf4bb7c"), looks := true }, kinds := [], alts := [], laidByText := true, laidKinds := [.data, .data, .data, .data, .sentinel, .sentinel, .pinned], laidTests := true, laidLooks := .later }
def AsmRewritesUptoCardSaid : Prop := Claim7.holds Tryz.pinned (.plain (OpenSpec.upto asmRewritesSpec)) asmRewritesUptoCard

/-- THE SECOND FORM's CARD OF 'retortlaw14.AsmLonger'. -/
def asmLongerUptoCard : Claim7 := { stood := { row := asmLongerUptoRow, standIns := [], harness := (true, "9ee309cc005af9431f3b5ee823ac730000b2acd4b8bbc7a3aa8971841bf4bb7c"), looks := true }, kinds := [], alts := [], laidByText := true, laidKinds := [.data, .data, .data, .data, .sentinel, .sentinel, .pinned], laidTests := true, laidLooks := .later }
def AsmLongerUptoCardSaid : Prop := Claim7.holds Tryz.pinned (.plain (OpenSpec.upto asmLongerSpec)) asmLongerUptoCard

/-- THE SECOND FORM's CARD OF 'retortlaw14.AsmOwn'. -/
def asmOwnUptoCard : Claim7 := { stood := { row := asmOwnUptoRow, standIns := [], harness := (true, "9ee309cc005af9431f3b5ee823ac730000b2acd4b8bbc7a3aa8971841bf4bb7c"), looks := true }, kinds := [], alts := [], laidByText := true, laidKinds := [.data, .data, .data, .data, .sentinel, .sentinel, .pinned], laidTests := true, laidLooks := .later }
def AsmOwnUptoCardSaid : Prop := Claim7.holds Tryz.pinned (.plain (OpenSpec.upto asmOwnSpec)) asmOwnUptoCard
end Rows
end Go.Proofs.YteciblfmgdlipaaGreatDoor
