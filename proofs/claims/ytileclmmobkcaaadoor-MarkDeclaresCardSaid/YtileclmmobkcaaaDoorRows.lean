/-
  NARROWER THAN 'FOR EVERY INPUT', by the rows' own cells (each row's printed sentence says how): MarkDeclares: laid · MarkWhole: laid · MarkComments: laid · MarkDoctypes: laid.
  DERIVED. THE GIVEN ROWS OF THIS SEAT. 4 by the template 'for every input the law returns true; each argument reads behind the call as it read before'; 0 by the template 'total and deterministic' (their statements: YtileclmmobkcaaaDoorTotals.lean).
  GIVEN WITH THE SEED: the statements are not yours to turn. If you find one false, say at which input.
  Laid BY PROGRAM, IN A SANDBOX (cutbox-rows.mjs): the forced cells as the released guide's own fill.sh prints them over the translation 11cd1d7cffce79db… (all of the seat's roots in one cut). By AI agents, Wed Nov 11 2026. No macro, syntax, notation, axiom, sorry.
-/
import Derived.Test.YtileclmmobkcaaaDoorChecked
import GoSem.PinnedTables
import GoSem.Claim
import GoSem.ClaimJoined
import GoSem.ClaimMapViews
import Derived.JoinedTies
import Derived.KernelRfl
namespace Go.Proofs.YtileclmmobkcaaaDoor
/- THE CELL 'sum', in the pinned program and in every row, IS THE sha256 OF THE DUMP (.gsa) THAT YtileclmmobkcaaaDoorProg.lean LOADS. Nothing in Lean hashes anything: it is a label: what it is worth is what the hold of that sum in a sandbox is worth. -/
noncomputable def Tryd.pinned : Pinned := { name := "ytileclmmobkcaaadoor", sum := "11cd1d7cffce79db66f5136f6f34a0290c42e59a8a42008a8178a3c02f7cf496", checked := Tryd.checked }
namespace Rows
def none {H : Type} : Left H := { results := [], args := [] }

/- WHAT THE LISTED PACKAGE-LEVEL VARIABLES READ AS WHEN THE CALL BEGINS. Each datum BY PROGRAM (the guide's laid-datum.mjs) off the statement by which the dump's own 'gosem.cut.vars' lays the variable. In a bare row this is a premise. The card (YtileclmmobkcaaaDoorCards.lean) ties it to the program's text. -/
def laid_unicode_utf8_acceptRanges {H : Type} : DataW H := .agg [.agg [.lit (.int .u8 128), .lit (.int .u8 191)], .agg [.lit (.int .u8 160), .lit (.int .u8 191)], .agg [.lit (.int .u8 128), .lit (.int .u8 159)], .agg [.lit (.int .u8 144), .lit (.int .u8 191)], .agg [.lit (.int .u8 128), .lit (.int .u8 143)], .agg [.lit (.int .u8 0), .lit (.int .u8 0)], .agg [.lit (.int .u8 0), .lit (.int .u8 0)], .agg [.lit (.int .u8 0), .lit (.int .u8 0)], .agg [.lit (.int .u8 0), .lit (.int .u8 0)], .agg [.lit (.int .u8 0), .lit (.int .u8 0)], .agg [.lit (.int .u8 0), .lit (.int .u8 0)], .agg [.lit (.int .u8 0), .lit (.int .u8 0)], .agg [.lit (.int .u8 0), .lit (.int .u8 0)], .agg [.lit (.int .u8 0), .lit (.int .u8 0)], .agg [.lit (.int .u8 0), .lit (.int .u8 0)], .agg [.lit (.int .u8 0), .lit (.int .u8 0)]]
/-- One of Go's own tables, pinned by name: the form's constant. -/
def laid_unicode_utf8_first : DataW Unit := Go.Pinned.utf8First

/-- 'lacunalaw04.MarkDeclares': WHATEVER THE INPUT: true; the input reads as it did. -/
def markDeclaresSpec : ChangeSpec := { name := "markDeclares", fn := fun _ => fun
  | [d1, d2, d3] => { results := [.lit (.bool true)], args := [d1, d2, d3] }
  | _ => none }
def markDeclaresRow : OpenClaim := { program := "ytileclmmobkcaaadoor", sum := "11cd1d7cffce79db66f5136f6f34a0290c42e59a8a42008a8178a3c02f7cf496", func := "lacuna/lacunalaw04.MarkDeclares", spec := "markDeclares", inPlace := ["internal/bytealg.CountString", "internal/bytealg.IndexByteString", "internal/bytealg.IndexString", "internal/abi.NoEscape", "internal/bytealg.MakeNoZero"], unfollowed := true, recurses := true, named := ["internal/bytealg.MaxLen", "unicode/utf8.first", "unicode/utf8.acceptRanges"], apart := false, laid := [("unicode/utf8.acceptRanges", laid_unicode_utf8_acceptRanges), ("unicode/utf8.first", laid_unicode_utf8_first)] }
def MarkDeclaresSaid : Prop := markDeclaresRow.holds Tryd.pinned (OpenSpec.ofChange markDeclaresSpec)

/-- ITS FALSE NEIGHBOUR: 'it returns false'. Refute it at one input. -/
def markDeclaresWrong : ChangeSpec := { name := "markDeclares", fn := fun _ => fun
  | [d1, d2, d3] => { results := [.lit (.bool false)], args := [d1, d2, d3] }
  | _ => none }
def MarkDeclaresWrongFalsely : Prop := markDeclaresRow.holds Tryd.pinned (OpenSpec.ofChange markDeclaresWrong)

/-- 'lacunalaw04.MarkWhole': WHATEVER THE INPUT: true; the input reads as it did. -/
def markWholeSpec : ChangeSpec := { name := "markWhole", fn := fun _ => fun
  | [d1, d2, d3] => { results := [.lit (.bool true)], args := [d1, d2, d3] }
  | _ => none }
def markWholeRow : OpenClaim := { program := "ytileclmmobkcaaadoor", sum := "11cd1d7cffce79db66f5136f6f34a0290c42e59a8a42008a8178a3c02f7cf496", func := "lacuna/lacunalaw04.MarkWhole", spec := "markWhole", inPlace := ["internal/bytealg.CountString", "internal/bytealg.IndexByteString", "internal/bytealg.IndexString", "internal/abi.NoEscape", "internal/bytealg.MakeNoZero"], unfollowed := true, recurses := true, named := ["internal/bytealg.MaxLen", "unicode/utf8.first", "unicode/utf8.acceptRanges"], apart := false, laid := [("unicode/utf8.acceptRanges", laid_unicode_utf8_acceptRanges), ("unicode/utf8.first", laid_unicode_utf8_first)] }
def MarkWholeSaid : Prop := markWholeRow.holds Tryd.pinned (OpenSpec.ofChange markWholeSpec)

/-- ITS FALSE NEIGHBOUR: 'it returns false'. Refute it at one input. -/
def markWholeWrong : ChangeSpec := { name := "markWhole", fn := fun _ => fun
  | [d1, d2, d3] => { results := [.lit (.bool false)], args := [d1, d2, d3] }
  | _ => none }
def MarkWholeWrongFalsely : Prop := markWholeRow.holds Tryd.pinned (OpenSpec.ofChange markWholeWrong)

/-- 'lacunalaw04.MarkComments': WHATEVER THE INPUT: true; the input reads as it did. -/
def markCommentsSpec : ChangeSpec := { name := "markComments", fn := fun _ => fun
  | [d1, d2] => { results := [.lit (.bool true)], args := [d1, d2] }
  | _ => none }
def markCommentsRow : OpenClaim := { program := "ytileclmmobkcaaadoor", sum := "11cd1d7cffce79db66f5136f6f34a0290c42e59a8a42008a8178a3c02f7cf496", func := "lacuna/lacunalaw04.MarkComments", spec := "markComments", inPlace := ["internal/bytealg.CountString", "internal/bytealg.IndexByteString", "internal/bytealg.IndexString", "internal/abi.NoEscape", "internal/bytealg.MakeNoZero"], unfollowed := true, recurses := true, named := ["internal/bytealg.MaxLen", "unicode/utf8.first", "unicode/utf8.acceptRanges"], apart := false, laid := [("unicode/utf8.acceptRanges", laid_unicode_utf8_acceptRanges), ("unicode/utf8.first", laid_unicode_utf8_first)] }
def MarkCommentsSaid : Prop := markCommentsRow.holds Tryd.pinned (OpenSpec.ofChange markCommentsSpec)

/-- ITS FALSE NEIGHBOUR: 'it returns false'. Refute it at one input. -/
def markCommentsWrong : ChangeSpec := { name := "markComments", fn := fun _ => fun
  | [d1, d2] => { results := [.lit (.bool false)], args := [d1, d2] }
  | _ => none }
def MarkCommentsWrongFalsely : Prop := markCommentsRow.holds Tryd.pinned (OpenSpec.ofChange markCommentsWrong)

/-- 'lacunalaw04.MarkDoctypes': WHATEVER THE INPUT: true; the input reads as it did. -/
def markDoctypesSpec : ChangeSpec := { name := "markDoctypes", fn := fun _ => fun
  | [d1, d2, d3] => { results := [.lit (.bool true)], args := [d1, d2, d3] }
  | _ => none }
def markDoctypesRow : OpenClaim := { program := "ytileclmmobkcaaadoor", sum := "11cd1d7cffce79db66f5136f6f34a0290c42e59a8a42008a8178a3c02f7cf496", func := "lacuna/lacunalaw04.MarkDoctypes", spec := "markDoctypes", inPlace := ["internal/bytealg.CountString", "internal/bytealg.IndexByteString", "internal/bytealg.IndexString", "internal/abi.NoEscape", "internal/bytealg.MakeNoZero"], unfollowed := true, recurses := true, named := ["internal/bytealg.MaxLen", "unicode/utf8.first", "unicode/utf8.acceptRanges"], apart := false, laid := [("unicode/utf8.acceptRanges", laid_unicode_utf8_acceptRanges), ("unicode/utf8.first", laid_unicode_utf8_first)] }
def MarkDoctypesSaid : Prop := markDoctypesRow.holds Tryd.pinned (OpenSpec.ofChange markDoctypesSpec)

/-- ITS FALSE NEIGHBOUR: 'it returns false'. Refute it at one input. -/
def markDoctypesWrong : ChangeSpec := { name := "markDoctypes", fn := fun _ => fun
  | [d1, d2, d3] => { results := [.lit (.bool false)], args := [d1, d2, d3] }
  | _ => none }
def MarkDoctypesWrongFalsely : Prop := markDoctypesRow.holds Tryd.pinned (OpenSpec.ofChange markDoctypesWrong)

/- THE SECOND FORM. 'bulk': how many values and letters a reading holds, each counted each time it is reached (what is shared counts as often as it is met; a slice's spare places count too). A statement '..UptoSaid' is the law's where the arguments, and the package variables that the reading takes, are together of bulk at most 1048576: NARROWER than '..Said'. Prove '..Said' where nothing that the law and all that it calls make is longer than what came in: it says more and counts as full. Else prove '..UptoSaid'. A law counts once. -/
mutual
def uptoBulk {H : Type} : DataW H → Nat
  | .lit (.string bytes) => bytes.length + 1
  | .lit _ => 1
  | .nil => 1
  | .ptr d => uptoBulk d + 1
  | .slice elems spare => uptoBulkAll elems + uptoBulkAll spare + 1
  | .agg parts => uptoBulkAll parts + 1
  | .iface _ d => uptoBulk d + 1
  | .map entries => uptoBulkEntries entries + 1
  | .held _ => 1
def uptoBulkAll {H : Type} : List (DataW H) → Nat
  | [] => 0
  | d :: r => uptoBulk d + uptoBulkAll r
def uptoBulkEntries {H : Type} : List (Lit × DataW H) → Nat
  | [] => 0
  | x :: r => uptoBulkEntry x + uptoBulkEntries r
def uptoBulkEntry {H : Type} : Lit × DataW H → Nat
  | (.string bytes, d) => bytes.length + uptoBulk d + 1
  | (_, d) => uptoBulk d + 1
 end
def uptoSmall : (H : Type) → List (DataW H) → Bool := fun _ ds => decide (uptoBulkAll ds ≤ 1048576)
def OpenSpec.upto (s : _root_.Go.ChangeSpec) : _root_.Go.OpenSpec := { _root_.Go.OpenSpec.ofChange s with cond := some uptoSmall }

/-- 'lacunalaw04.MarkDeclares', WHERE WHAT IT READS IS OF BULK AT MOST 1048576: true; the input reads as it did. -/
def markDeclaresUptoRow : OpenClaim := { program := "ytileclmmobkcaaadoor", sum := "11cd1d7cffce79db66f5136f6f34a0290c42e59a8a42008a8178a3c02f7cf496", func := "lacuna/lacunalaw04.MarkDeclares", spec := "markDeclares", inPlace := ["internal/bytealg.CountString", "internal/bytealg.IndexByteString", "internal/bytealg.IndexString", "internal/abi.NoEscape", "internal/bytealg.MakeNoZero"], unfollowed := true, recurses := true, named := ["internal/bytealg.MaxLen", "unicode/utf8.first", "unicode/utf8.acceptRanges"], apart := false, laid := [("unicode/utf8.acceptRanges", laid_unicode_utf8_acceptRanges), ("unicode/utf8.first", laid_unicode_utf8_first)], narrowed := true }
def MarkDeclaresUptoSaid : Prop := markDeclaresUptoRow.holds Tryd.pinned (OpenSpec.upto markDeclaresSpec)

/-- 'lacunalaw04.MarkWhole', WHERE WHAT IT READS IS OF BULK AT MOST 1048576: true; the input reads as it did. -/
def markWholeUptoRow : OpenClaim := { program := "ytileclmmobkcaaadoor", sum := "11cd1d7cffce79db66f5136f6f34a0290c42e59a8a42008a8178a3c02f7cf496", func := "lacuna/lacunalaw04.MarkWhole", spec := "markWhole", inPlace := ["internal/bytealg.CountString", "internal/bytealg.IndexByteString", "internal/bytealg.IndexString", "internal/abi.NoEscape", "internal/bytealg.MakeNoZero"], unfollowed := true, recurses := true, named := ["internal/bytealg.MaxLen", "unicode/utf8.first", "unicode/utf8.acceptRanges"], apart := false, laid := [("unicode/utf8.acceptRanges", laid_unicode_utf8_acceptRanges), ("unicode/utf8.first", laid_unicode_utf8_first)], narrowed := true }
def MarkWholeUptoSaid : Prop := markWholeUptoRow.holds Tryd.pinned (OpenSpec.upto markWholeSpec)

/-- 'lacunalaw04.MarkComments', WHERE WHAT IT READS IS OF BULK AT MOST 1048576: true; the input reads as it did. -/
def markCommentsUptoRow : OpenClaim := { program := "ytileclmmobkcaaadoor", sum := "11cd1d7cffce79db66f5136f6f34a0290c42e59a8a42008a8178a3c02f7cf496", func := "lacuna/lacunalaw04.MarkComments", spec := "markComments", inPlace := ["internal/bytealg.CountString", "internal/bytealg.IndexByteString", "internal/bytealg.IndexString", "internal/abi.NoEscape", "internal/bytealg.MakeNoZero"], unfollowed := true, recurses := true, named := ["internal/bytealg.MaxLen", "unicode/utf8.first", "unicode/utf8.acceptRanges"], apart := false, laid := [("unicode/utf8.acceptRanges", laid_unicode_utf8_acceptRanges), ("unicode/utf8.first", laid_unicode_utf8_first)], narrowed := true }
def MarkCommentsUptoSaid : Prop := markCommentsUptoRow.holds Tryd.pinned (OpenSpec.upto markCommentsSpec)

/-- 'lacunalaw04.MarkDoctypes', WHERE WHAT IT READS IS OF BULK AT MOST 1048576: true; the input reads as it did. -/
def markDoctypesUptoRow : OpenClaim := { program := "ytileclmmobkcaaadoor", sum := "11cd1d7cffce79db66f5136f6f34a0290c42e59a8a42008a8178a3c02f7cf496", func := "lacuna/lacunalaw04.MarkDoctypes", spec := "markDoctypes", inPlace := ["internal/bytealg.CountString", "internal/bytealg.IndexByteString", "internal/bytealg.IndexString", "internal/abi.NoEscape", "internal/bytealg.MakeNoZero"], unfollowed := true, recurses := true, named := ["internal/bytealg.MaxLen", "unicode/utf8.first", "unicode/utf8.acceptRanges"], apart := false, laid := [("unicode/utf8.acceptRanges", laid_unicode_utf8_acceptRanges), ("unicode/utf8.first", laid_unicode_utf8_first)], narrowed := true }
def MarkDoctypesUptoSaid : Prop := markDoctypesUptoRow.holds Tryd.pinned (OpenSpec.upto markDoctypesSpec)

end Rows
end Go.Proofs.YtileclmmobkcaaaDoor
