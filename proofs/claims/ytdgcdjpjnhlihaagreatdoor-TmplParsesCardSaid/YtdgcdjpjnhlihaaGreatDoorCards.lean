/-
  DERIVED. GIVEN WITH THE SEED: THE CARDS: each row of YtdgcdjpjnhlihaaGreatDoorRows.lean that lists a variable, with what it lists TIED to the program's text (the seventh form; the later family's looks); each row that meets fmt, with fmt's text TOLD by the authors' own Lean function (tested against real Go, not proved from fmt's source: count such statements apart). THE CARD IS WHAT COUNTS. Prove the row's statement (the work); the ties are given (YtdgcdjpjnhlihaaGreatDoorTie.lean); close each card by the builder's one call (the guide's Derived/Test/ToyasCard.lean, 'card_holds'). Laid BY PROGRAM, IN A SANDBOX (cutbox-door.mjs). By AI agents, Wed Nov 11 2026. No macro, syntax, notation, axiom, sorry.
-/
import Derived.Test.YtdgcdjpjnhlihaaGreatDoorRows
import GoSem.ClaimSeven
namespace Go.Proofs.YtdgcdjpjnhlihaaGreatDoor
namespace Rows

/-- THE TIED CARD OF 'lacunalaw19.TmplPrints'. -/
def tmplPrintsCard : Claim7 := { stood := { row := tmplPrintsRow, standIns := [], harness := (true, "86ebdb5aaa03f2632a6f349594aded83dfd4dec9995e1d293f8ab9650b0bc7ca"), looks := true }, kinds := [], alts := [], laidByText := true, laidKinds := [.data, .handle, .pinned], laidTests := true, laidLooks := .later }
def TmplPrintsCardSaid : Prop := Claim7.holds Tryz.pinned (.plain (OpenSpec.ofChange tmplPrintsSpec)) tmplPrintsCard

/-- THE TIED CARD OF 'lacunalaw19.TmplBack'. -/
def tmplBackCard : Claim7 := { stood := { row := tmplBackRow, standIns := [], harness := (true, "86ebdb5aaa03f2632a6f349594aded83dfd4dec9995e1d293f8ab9650b0bc7ca"), looks := true }, kinds := [], alts := [], laidByText := true, laidKinds := [.data, .handle, .pinned], laidTests := true, laidLooks := .later }
def TmplBackCardSaid : Prop := Claim7.holds Tryz.pinned (.plain (OpenSpec.ofChange tmplBackSpec)) tmplBackCard

/-- THE TIED CARD OF 'lacunalaw19.TmplRead'. -/
def tmplReadCard : Claim7 := { stood := { row := tmplReadRow, standIns := [], harness := (true, "86ebdb5aaa03f2632a6f349594aded83dfd4dec9995e1d293f8ab9650b0bc7ca"), looks := true }, kinds := [], alts := [], laidByText := true, laidKinds := [.data, .handle, .pinned], laidTests := true, laidLooks := .later }
def TmplReadCardSaid : Prop := Claim7.holds Tryz.pinned (.plain (OpenSpec.ofChange tmplReadSpec)) tmplReadCard

/-- THE TIED CARD OF 'lacunalaw19.TmplBlanks'. -/
def tmplBlanksCard : Claim7 := { stood := { row := tmplBlanksRow, standIns := [], harness := (true, "86ebdb5aaa03f2632a6f349594aded83dfd4dec9995e1d293f8ab9650b0bc7ca"), looks := true }, kinds := [], alts := [], laidByText := true, laidKinds := [.data, .handle, .pinned], laidTests := true, laidLooks := .later }
def TmplBlanksCardSaid : Prop := Claim7.holds Tryz.pinned (.plain (OpenSpec.ofChange tmplBlanksSpec)) tmplBlanksCard

/-- THE TIED CARD OF 'lacunalaw19.TmplParses'. -/
def tmplParsesCard : Claim7 := { stood := { row := tmplParsesRow, standIns := [], harness := (true, "86ebdb5aaa03f2632a6f349594aded83dfd4dec9995e1d293f8ab9650b0bc7ca"), looks := true }, kinds := [], alts := [], laidByText := true, laidKinds := [.data, .handle, .pinned], laidTests := true, laidLooks := .later }
def TmplParsesCardSaid : Prop := Claim7.holds Tryz.pinned (.plain (OpenSpec.ofChange tmplParsesSpec)) tmplParsesCard

/-- THE SECOND FORM's CARD OF 'lacunalaw19.TmplPrints'. -/
def tmplPrintsUptoCard : Claim7 := { stood := { row := tmplPrintsUptoRow, standIns := [], harness := (true, "86ebdb5aaa03f2632a6f349594aded83dfd4dec9995e1d293f8ab9650b0bc7ca"), looks := true }, kinds := [], alts := [], laidByText := true, laidKinds := [.data, .handle, .pinned], laidTests := true, laidLooks := .later }
def TmplPrintsUptoCardSaid : Prop := Claim7.holds Tryz.pinned (.plain (OpenSpec.upto tmplPrintsSpec)) tmplPrintsUptoCard

/-- THE SECOND FORM's CARD OF 'lacunalaw19.TmplBack'. -/
def tmplBackUptoCard : Claim7 := { stood := { row := tmplBackUptoRow, standIns := [], harness := (true, "86ebdb5aaa03f2632a6f349594aded83dfd4dec9995e1d293f8ab9650b0bc7ca"), looks := true }, kinds := [], alts := [], laidByText := true, laidKinds := [.data, .handle, .pinned], laidTests := true, laidLooks := .later }
def TmplBackUptoCardSaid : Prop := Claim7.holds Tryz.pinned (.plain (OpenSpec.upto tmplBackSpec)) tmplBackUptoCard

/-- THE SECOND FORM's CARD OF 'lacunalaw19.TmplRead'. -/
def tmplReadUptoCard : Claim7 := { stood := { row := tmplReadUptoRow, standIns := [], harness := (true, "86ebdb5aaa03f2632a6f349594aded83dfd4dec9995e1d293f8ab9650b0bc7ca"), looks := true }, kinds := [], alts := [], laidByText := true, laidKinds := [.data, .handle, .pinned], laidTests := true, laidLooks := .later }
def TmplReadUptoCardSaid : Prop := Claim7.holds Tryz.pinned (.plain (OpenSpec.upto tmplReadSpec)) tmplReadUptoCard

/-- THE SECOND FORM's CARD OF 'lacunalaw19.TmplBlanks'. -/
def tmplBlanksUptoCard : Claim7 := { stood := { row := tmplBlanksUptoRow, standIns := [], harness := (true, "86ebdb5aaa03f2632a6f349594aded83dfd4dec9995e1d293f8ab9650b0bc7ca"), looks := true }, kinds := [], alts := [], laidByText := true, laidKinds := [.data, .handle, .pinned], laidTests := true, laidLooks := .later }
def TmplBlanksUptoCardSaid : Prop := Claim7.holds Tryz.pinned (.plain (OpenSpec.upto tmplBlanksSpec)) tmplBlanksUptoCard

/-- THE SECOND FORM's CARD OF 'lacunalaw19.TmplParses'. -/
def tmplParsesUptoCard : Claim7 := { stood := { row := tmplParsesUptoRow, standIns := [], harness := (true, "86ebdb5aaa03f2632a6f349594aded83dfd4dec9995e1d293f8ab9650b0bc7ca"), looks := true }, kinds := [], alts := [], laidByText := true, laidKinds := [.data, .handle, .pinned], laidTests := true, laidLooks := .later }
def TmplParsesUptoCardSaid : Prop := Claim7.holds Tryz.pinned (.plain (OpenSpec.upto tmplParsesSpec)) tmplParsesUptoCard
end Rows
end Go.Proofs.YtdgcdjpjnhlihaaGreatDoor
