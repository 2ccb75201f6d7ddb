/-
  DERIVED. GIVEN WITH THE SEED: THE CARDS: each row of YteffnlelmcbgmaaDoorRows.lean that lists a variable, with what it lists TIED to the program's text (the seventh form; the later family's looks); each row that meets fmt, with fmt's text TOLD by the authors' own Lean function (tested against real Go, not proved from fmt's source: count such statements apart). THE CARD IS WHAT COUNTS. Prove the row's statement (the work); the ties are given (YteffnlelmcbgmaaDoorTie.lean); close each card by the builder's one call (the guide's Derived/Test/ToyasCard.lean, 'card_holds'). Laid BY PROGRAM, IN A SANDBOX (cutbox-door.mjs). By AI agents, Wed Nov 11 2026. No macro, syntax, notation, axiom, sorry.
-/
import Derived.Test.YteffnlelmcbgmaaDoorRows
import GoSem.ClaimSeven
namespace Go.Proofs.YteffnlelmcbgmaaDoor
namespace Rows

/-- THE TIED CARD OF 'lacunalaw01.TextSpots'. -/
def textSpotsCard : Claim7 := { stood := { row := textSpotsRow, standIns := [], harness := (true, "464c5e5ac590e90571b71136bb8a7c3a41ddc8f276a4bc43ab137a9cb8829de1"), looks := false }, kinds := [], alts := [], laidByText := true, laidKinds := [.data, .pinned], laidTests := true, laidLooks := .later }
def TextSpotsCardSaid : Prop := Claim7.holds Tryd.pinned (.plain (OpenSpec.ofChange textSpotsSpec)) textSpotsCard

/-- THE TIED CARD OF 'lacunalaw01.TextChunks'. -/
def textChunksCard : Claim7 := { stood := { row := textChunksRow, standIns := [], harness := (true, "464c5e5ac590e90571b71136bb8a7c3a41ddc8f276a4bc43ab137a9cb8829de1"), looks := false }, kinds := [], alts := [], laidByText := true, laidKinds := [.data, .pinned], laidTests := true, laidLooks := .later }
def TextChunksCardSaid : Prop := Claim7.holds Tryd.pinned (.plain (OpenSpec.ofChange textChunksSpec)) textChunksCard

/-- THE TIED CARD OF 'lacunalaw01.TextJoined'. -/
def textJoinedCard : Claim7 := { stood := { row := textJoinedRow, standIns := [], harness := (true, "464c5e5ac590e90571b71136bb8a7c3a41ddc8f276a4bc43ab137a9cb8829de1"), looks := false }, kinds := [], alts := [], laidByText := true, laidKinds := [.data, .pinned], laidTests := true, laidLooks := .later }
def TextJoinedCardSaid : Prop := Claim7.holds Tryd.pinned (.plain (OpenSpec.ofChange textJoinedSpec)) textJoinedCard

/-- THE TIED CARD OF 'lacunalaw01.TextLines'. -/
def textLinesCard : Claim7 := { stood := { row := textLinesRow, standIns := [], harness := (true, "464c5e5ac590e90571b71136bb8a7c3a41ddc8f276a4bc43ab137a9cb8829de1"), looks := false }, kinds := [], alts := [], laidByText := true, laidKinds := [.data, .pinned], laidTests := true, laidLooks := .later }
def TextLinesCardSaid : Prop := Claim7.holds Tryd.pinned (.plain (OpenSpec.ofChange textLinesSpec)) textLinesCard

/-- THE TIED CARD OF 'lacunalaw01.TextDecodes'. -/
def textDecodesCard : Claim7 := { stood := { row := textDecodesRow, standIns := [], harness := (true, "464c5e5ac590e90571b71136bb8a7c3a41ddc8f276a4bc43ab137a9cb8829de1"), looks := false }, kinds := [], alts := [], laidByText := true, laidKinds := [.data, .pinned], laidTests := true, laidLooks := .later }
def TextDecodesCardSaid : Prop := Claim7.holds Tryd.pinned (.plain (OpenSpec.ofChange textDecodesSpec)) textDecodesCard

/-- THE TIED CARD OF 'lacunalaw01.TextOnce'. -/
def textOnceCard : Claim7 := { stood := { row := textOnceRow, standIns := [], harness := (true, "464c5e5ac590e90571b71136bb8a7c3a41ddc8f276a4bc43ab137a9cb8829de1"), looks := false }, kinds := [], alts := [], laidByText := true, laidKinds := [.data, .pinned], laidTests := true, laidLooks := .later }
def TextOnceCardSaid : Prop := Claim7.holds Tryd.pinned (.plain (OpenSpec.ofChange textOnceSpec)) textOnceCard

/-- THE SECOND FORM's CARD OF 'lacunalaw01.TextSpots'. -/
def textSpotsUptoCard : Claim7 := { stood := { row := textSpotsUptoRow, standIns := [], harness := (true, "464c5e5ac590e90571b71136bb8a7c3a41ddc8f276a4bc43ab137a9cb8829de1"), looks := false }, kinds := [], alts := [], laidByText := true, laidKinds := [.data, .pinned], laidTests := true, laidLooks := .later }
def TextSpotsUptoCardSaid : Prop := Claim7.holds Tryd.pinned (.plain (OpenSpec.upto textSpotsSpec)) textSpotsUptoCard

/-- THE SECOND FORM's CARD OF 'lacunalaw01.TextChunks'. -/
def textChunksUptoCard : Claim7 := { stood := { row := textChunksUptoRow, standIns := [], harness := (true, "464c5e5ac590e90571b71136bb8a7c3a41ddc8f276a4bc43ab137a9cb8829de1"), looks := false }, kinds := [], alts := [], laidByText := true, laidKinds := [.data, .pinned], laidTests := true, laidLooks := .later }
def TextChunksUptoCardSaid : Prop := Claim7.holds Tryd.pinned (.plain (OpenSpec.upto textChunksSpec)) textChunksUptoCard

/-- THE SECOND FORM's CARD OF 'lacunalaw01.TextJoined'. -/
def textJoinedUptoCard : Claim7 := { stood := { row := textJoinedUptoRow, standIns := [], harness := (true, "464c5e5ac590e90571b71136bb8a7c3a41ddc8f276a4bc43ab137a9cb8829de1"), looks := false }, kinds := [], alts := [], laidByText := true, laidKinds := [.data, .pinned], laidTests := true, laidLooks := .later }
def TextJoinedUptoCardSaid : Prop := Claim7.holds Tryd.pinned (.plain (OpenSpec.upto textJoinedSpec)) textJoinedUptoCard

/-- THE SECOND FORM's CARD OF 'lacunalaw01.TextLines'. -/
def textLinesUptoCard : Claim7 := { stood := { row := textLinesUptoRow, standIns := [], harness := (true, "464c5e5ac590e90571b71136bb8a7c3a41ddc8f276a4bc43ab137a9cb8829de1"), looks := false }, kinds := [], alts := [], laidByText := true, laidKinds := [.data, .pinned], laidTests := true, laidLooks := .later }
def TextLinesUptoCardSaid : Prop := Claim7.holds Tryd.pinned (.plain (OpenSpec.upto textLinesSpec)) textLinesUptoCard

/-- THE SECOND FORM's CARD OF 'lacunalaw01.TextDecodes'. -/
def textDecodesUptoCard : Claim7 := { stood := { row := textDecodesUptoRow, standIns := [], harness := (true, "464c5e5ac590e90571b71136bb8a7c3a41ddc8f276a4bc43ab137a9cb8829de1"), looks := false }, kinds := [], alts := [], laidByText := true, laidKinds := [.data, .pinned], laidTests := true, laidLooks := .later }
def TextDecodesUptoCardSaid : Prop := Claim7.holds Tryd.pinned (.plain (OpenSpec.upto textDecodesSpec)) textDecodesUptoCard

/-- THE SECOND FORM's CARD OF 'lacunalaw01.TextOnce'. -/
def textOnceUptoCard : Claim7 := { stood := { row := textOnceUptoRow, standIns := [], harness := (true, "464c5e5ac590e90571b71136bb8a7c3a41ddc8f276a4bc43ab137a9cb8829de1"), looks := false }, kinds := [], alts := [], laidByText := true, laidKinds := [.data, .pinned], laidTests := true, laidLooks := .later }
def TextOnceUptoCardSaid : Prop := Claim7.holds Tryd.pinned (.plain (OpenSpec.upto textOnceSpec)) textOnceUptoCard
end Rows
end Go.Proofs.YteffnlelmcbgmaaDoor
