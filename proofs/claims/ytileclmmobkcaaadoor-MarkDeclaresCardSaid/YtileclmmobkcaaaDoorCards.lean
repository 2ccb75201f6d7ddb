/-
  DERIVED. GIVEN WITH THE SEED: THE CARDS: each row of YtileclmmobkcaaaDoorRows.lean that lists a variable, with what it lists TIED to the program's text (the seventh form; the later family's looks); each row that meets fmt, with fmt's text TOLD by the authors' own Lean function (tested against real Go, not proved from fmt's source: count such statements apart). THE CARD IS WHAT COUNTS. Prove the row's statement (the work); the ties are given (YtileclmmobkcaaaDoorTie.lean); close each card by the builder's one call (the guide's Derived/Test/ToyasCard.lean, 'card_holds'). Laid BY PROGRAM, IN A SANDBOX (cutbox-door.mjs). By AI agents, Wed Nov 11 2026. No macro, syntax, notation, axiom, sorry.
-/
import Derived.Test.YtileclmmobkcaaaDoorRows
import GoSem.ClaimSeven
namespace Go.Proofs.YtileclmmobkcaaaDoor
namespace Rows

/-- THE TIED CARD OF 'lacunalaw04.MarkDeclares'. -/
def markDeclaresCard : Claim7 := { stood := { row := markDeclaresRow, standIns := [], harness := (true, "65ead191d2b852dc997ac19e30ce33e5fdcbf248aed8535518f6d904e7366f0f"), looks := false }, kinds := [], alts := [], laidByText := true, laidKinds := [.data, .pinned], laidTests := true, laidLooks := .later }
def MarkDeclaresCardSaid : Prop := Claim7.holds Tryd.pinned (.plain (OpenSpec.ofChange markDeclaresSpec)) markDeclaresCard

/-- THE TIED CARD OF 'lacunalaw04.MarkWhole'. -/
def markWholeCard : Claim7 := { stood := { row := markWholeRow, standIns := [], harness := (true, "65ead191d2b852dc997ac19e30ce33e5fdcbf248aed8535518f6d904e7366f0f"), looks := false }, kinds := [], alts := [], laidByText := true, laidKinds := [.data, .pinned], laidTests := true, laidLooks := .later }
def MarkWholeCardSaid : Prop := Claim7.holds Tryd.pinned (.plain (OpenSpec.ofChange markWholeSpec)) markWholeCard

/-- THE TIED CARD OF 'lacunalaw04.MarkComments'. -/
def markCommentsCard : Claim7 := { stood := { row := markCommentsRow, standIns := [], harness := (true, "65ead191d2b852dc997ac19e30ce33e5fdcbf248aed8535518f6d904e7366f0f"), looks := false }, kinds := [], alts := [], laidByText := true, laidKinds := [.data, .pinned], laidTests := true, laidLooks := .later }
def MarkCommentsCardSaid : Prop := Claim7.holds Tryd.pinned (.plain (OpenSpec.ofChange markCommentsSpec)) markCommentsCard

/-- THE TIED CARD OF 'lacunalaw04.MarkDoctypes'. -/
def markDoctypesCard : Claim7 := { stood := { row := markDoctypesRow, standIns := [], harness := (true, "65ead191d2b852dc997ac19e30ce33e5fdcbf248aed8535518f6d904e7366f0f"), looks := false }, kinds := [], alts := [], laidByText := true, laidKinds := [.data, .pinned], laidTests := true, laidLooks := .later }
def MarkDoctypesCardSaid : Prop := Claim7.holds Tryd.pinned (.plain (OpenSpec.ofChange markDoctypesSpec)) markDoctypesCard

/-- THE SECOND FORM's CARD OF 'lacunalaw04.MarkDeclares'. -/
def markDeclaresUptoCard : Claim7 := { stood := { row := markDeclaresUptoRow, standIns := [], harness := (true, "65ead191d2b852dc997ac19e30ce33e5fdcbf248aed8535518f6d904e7366f0f"), looks := false }, kinds := [], alts := [], laidByText := true, laidKinds := [.data, .pinned], laidTests := true, laidLooks := .later }
def MarkDeclaresUptoCardSaid : Prop := Claim7.holds Tryd.pinned (.plain (OpenSpec.upto markDeclaresSpec)) markDeclaresUptoCard

/-- THE SECOND FORM's CARD OF 'lacunalaw04.MarkWhole'. -/
def markWholeUptoCard : Claim7 := { stood := { row := markWholeUptoRow, standIns := [], harness := (true, "65ead191d2b852dc997ac19e30ce33e5fdcbf248aed8535518f6d904e7366f0f"), looks := false }, kinds := [], alts := [], laidByText := true, laidKinds := [.data, .pinned], laidTests := true, laidLooks := .later }
def MarkWholeUptoCardSaid : Prop := Claim7.holds Tryd.pinned (.plain (OpenSpec.upto markWholeSpec)) markWholeUptoCard

/-- THE SECOND FORM's CARD OF 'lacunalaw04.MarkComments'. -/
def markCommentsUptoCard : Claim7 := { stood := { row := markCommentsUptoRow, standIns := [], harness := (true, "65ead191d2b852dc997ac19e30ce33e5fdcbf248aed8535518f6d904e7366f0f"), looks := false }, kinds := [], alts := [], laidByText := true, laidKinds := [.data, .pinned], laidTests := true, laidLooks := .later }
def MarkCommentsUptoCardSaid : Prop := Claim7.holds Tryd.pinned (.plain (OpenSpec.upto markCommentsSpec)) markCommentsUptoCard

/-- THE SECOND FORM's CARD OF 'lacunalaw04.MarkDoctypes'. -/
def markDoctypesUptoCard : Claim7 := { stood := { row := markDoctypesUptoRow, standIns := [], harness := (true, "65ead191d2b852dc997ac19e30ce33e5fdcbf248aed8535518f6d904e7366f0f"), looks := false }, kinds := [], alts := [], laidByText := true, laidKinds := [.data, .pinned], laidTests := true, laidLooks := .later }
def MarkDoctypesUptoCardSaid : Prop := Claim7.holds Tryd.pinned (.plain (OpenSpec.upto markDoctypesSpec)) markDoctypesUptoCard
end Rows
end Go.Proofs.YtileclmmobkcaaaDoor
