/-
  DERIVED. GIVEN WITH THE SEED: THE CARDS: each row of YtepcpgdfbaklfaaGreatDoorRows.lean that lists a variable, with what it lists TIED to the program's text (the seventh form; the later family's looks); each row that meets fmt, with fmt's text TOLD by the authors' own Lean function (tested against real Go, not proved from fmt's source: count such statements apart). THE CARD IS WHAT COUNTS. Prove the row's statement (the work); the ties are given (YtepcpgdfbaklfaaGreatDoorTie.lean); close each card by the builder's one call (the guide's Derived/Test/ToyasCard.lean, 'card_holds'). Laid BY PROGRAM, IN A SANDBOX (cutbox-door.mjs). By AI agents, Wed Nov 11 2026. No macro, syntax, notation, axiom, sorry.
-/
import Derived.Test.YtepcpgdfbaklfaaGreatDoorRows
import GoSem.ClaimSeven
namespace Go.Proofs.YtepcpgdfbaklfaaGreatDoor
namespace Rows

/-- THE TIED CARD OF 'lacunalaw20.EvalRuns'. -/
def evalRunsCard : Claim7 := { stood := { row := evalRunsRow, standIns := [], harness := (true, "7ea9d330fb13c9e38a135f9ce1b8233c4591cdb0784e745dcf8cade10d27b975"), looks := true }, kinds := [], alts := [], laidByText := true, laidKinds := [.data, .pinned], laidTests := true, laidLooks := .later }
def EvalRunsCardSaid : Prop := Claim7.holds Tryz.pinned (.plain (OpenSpec.ofChange evalRunsSpec)) evalRunsCard

/-- THE TIED CARD OF 'lacunalaw20.EvalTraces'. -/
def evalTracesCard : Claim7 := { stood := { row := evalTracesRow, standIns := [], harness := (true, "7ea9d330fb13c9e38a135f9ce1b8233c4591cdb0784e745dcf8cade10d27b975"), looks := true }, kinds := [], alts := [], laidByText := true, laidKinds := [.data, .pinned], laidTests := true, laidLooks := .later }
def EvalTracesCardSaid : Prop := Claim7.holds Tryz.pinned (.plain (OpenSpec.ofChange evalTracesSpec)) evalTracesCard

/-- THE TIED CARD OF 'lacunalaw20.EvalMore'. -/
def evalMoreCard : Claim7 := { stood := { row := evalMoreRow, standIns := [], harness := (true, "7ea9d330fb13c9e38a135f9ce1b8233c4591cdb0784e745dcf8cade10d27b975"), looks := true }, kinds := [], alts := [], laidByText := true, laidKinds := [.data, .pinned], laidTests := true, laidLooks := .later }
def EvalMoreCardSaid : Prop := Claim7.holds Tryz.pinned (.plain (OpenSpec.ofChange evalMoreSpec)) evalMoreCard

/-- THE TIED CARD OF 'lacunalaw20.EvalTwice'. -/
def evalTwiceCard : Claim7 := { stood := { row := evalTwiceRow, standIns := [], harness := (true, "7ea9d330fb13c9e38a135f9ce1b8233c4591cdb0784e745dcf8cade10d27b975"), looks := true }, kinds := [], alts := [], laidByText := true, laidKinds := [.data, .pinned], laidTests := true, laidLooks := .later }
def EvalTwiceCardSaid : Prop := Claim7.holds Tryz.pinned (.plain (OpenSpec.ofChange evalTwiceSpec)) evalTwiceCard

/-- THE TIED CARD OF 'lacunalaw20.EvalPaths'. -/
def evalPathsCard : Claim7 := { stood := { row := evalPathsRow, standIns := [], harness := (true, "7ea9d330fb13c9e38a135f9ce1b8233c4591cdb0784e745dcf8cade10d27b975"), looks := true }, kinds := [], alts := [], laidByText := true, laidKinds := [.data, .pinned], laidTests := true, laidLooks := .later }
def EvalPathsCardSaid : Prop := Claim7.holds Tryz.pinned (.plain (OpenSpec.ofChange evalPathsSpec)) evalPathsCard

/-- THE SECOND FORM's CARD OF 'lacunalaw20.EvalRuns'. -/
def evalRunsUptoCard : Claim7 := { stood := { row := evalRunsUptoRow, standIns := [], harness := (true, "7ea9d330fb13c9e38a135f9ce1b8233c4591cdb0784e745dcf8cade10d27b975"), looks := true }, kinds := [], alts := [], laidByText := true, laidKinds := [.data, .pinned], laidTests := true, laidLooks := .later }
def EvalRunsUptoCardSaid : Prop := Claim7.holds Tryz.pinned (.plain (OpenSpec.upto evalRunsSpec)) evalRunsUptoCard

/-- THE SECOND FORM's CARD OF 'lacunalaw20.EvalTraces'. -/
def evalTracesUptoCard : Claim7 := { stood := { row := evalTracesUptoRow, standIns := [], harness := (true, "7ea9d330fb13c9e38a135f9ce1b8233c4591cdb0784e745dcf8cade10d27b975"), looks := true }, kinds := [], alts := [], laidByText := true, laidKinds := [.data, .pinned], laidTests := true, laidLooks := .later }
def EvalTracesUptoCardSaid : Prop := Claim7.holds Tryz.pinned (.plain (OpenSpec.upto evalTracesSpec)) evalTracesUptoCard

/-- THE SECOND FORM's CARD OF 'lacunalaw20.EvalMore'. -/
def evalMoreUptoCard : Claim7 := { stood := { row := evalMoreUptoRow, standIns := [], harness := (true, "7ea9d330fb13c9e38a135f9ce1b8233c4591cdb0784e745dcf8cade10d27b975"), looks := true }, kinds := [], alts := [], laidByText := true, laidKinds := [.data, .pinned], laidTests := true, laidLooks := .later }
def EvalMoreUptoCardSaid : Prop := Claim7.holds Tryz.pinned (.plain (OpenSpec.upto evalMoreSpec)) evalMoreUptoCard

/-- THE SECOND FORM's CARD OF 'lacunalaw20.EvalTwice'. -/
def evalTwiceUptoCard : Claim7 := { stood := { row := evalTwiceUptoRow, standIns := [], harness := (true, "7ea9d330fb13c9e38a135f9ce1b8233c4591cdb0784e745dcf8cade10d27b975"), looks := true }, kinds := [], alts := [], laidByText := true, laidKinds := [.data, .pinned], laidTests := true, laidLooks := .later }
def EvalTwiceUptoCardSaid : Prop := Claim7.holds Tryz.pinned (.plain (OpenSpec.upto evalTwiceSpec)) evalTwiceUptoCard

/-- THE SECOND FORM's CARD OF 'lacunalaw20.EvalPaths'. -/
def evalPathsUptoCard : Claim7 := { stood := { row := evalPathsUptoRow, standIns := [], harness := (true, "7ea9d330fb13c9e38a135f9ce1b8233c4591cdb0784e745dcf8cade10d27b975"), looks := true }, kinds := [], alts := [], laidByText := true, laidKinds := [.data, .pinned], laidTests := true, laidLooks := .later }
def EvalPathsUptoCardSaid : Prop := Claim7.holds Tryz.pinned (.plain (OpenSpec.upto evalPathsSpec)) evalPathsUptoCard
end Rows
end Go.Proofs.YtepcpgdfbaklfaaGreatDoor
