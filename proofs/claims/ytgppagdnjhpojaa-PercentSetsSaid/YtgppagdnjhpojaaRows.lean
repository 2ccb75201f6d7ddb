/-
  No cell of these rows narrows 'for every input' (looked for: loops, veiled, ifaces, maps, wideKeys, modest, calm, conditions, laid).
  DERIVED. THE GIVEN ROWS OF THIS SEAT. 4 by the template 'for every input the law returns true; each argument reads behind the call as it read before'; 0 by the template 'total and deterministic' (their statements: YtgppagdnjhpojaaTotals.lean).
  GIVEN WITH THE SEED: the statements are not yours to turn. If you find one false, say at which input.
  Laid BY PROGRAM, IN A SANDBOX (cutbox-rows.mjs): the forced cells as the released guide's own fill.sh prints them over the translation 1c5a992ce4c7820e… (all of the seat's roots in one cut). By AI agents, Wed Nov 11 2026. No macro, syntax, notation, axiom, sorry.
-/
import Derived.Test.YtgppagdnjhpojaaChecked
import GoSem.Claim
import GoSem.ClaimJoined
import GoSem.ClaimMapViews
import Derived.JoinedTies
import Derived.KernelRfl
namespace Go.Proofs.Ytgppagdnjhpojaa
/- THE CELL 'sum', in the pinned program and in every row, IS THE sha256 OF THE DUMP (.gsa) THAT YtgppagdnjhpojaaProg.lean LOADS. Nothing in Lean hashes anything: it is a label: what it is worth is what the hold of that sum in a sandbox is worth. -/
noncomputable def Try.pinned : Pinned := { name := "ytgppagdnjhpojaa", sum := "1c5a992ce4c7820ee33eb4ee21c13e9fb9cdaffa54b6ddf5f5928c17e82ad2b2", checked := Try.checked }
namespace Rows
def none {H : Type} : Left H := { results := [], args := [] }

/-- 'lacunalaw10.PercentDoes': WHATEVER THE INPUT: true; the input reads as it did. -/
def percentDoesSpec : ChangeSpec := { name := "percentDoes", fn := fun _ => fun
  | [d1, d2] => { results := [.lit (.bool true)], args := [d1, d2] }
  | _ => none }
def percentDoesRow : OpenClaim := { program := "ytgppagdnjhpojaa", sum := "1c5a992ce4c7820ee33eb4ee21c13e9fb9cdaffa54b6ddf5f5928c17e82ad2b2", func := "lacuna/lacunalaw10.PercentDoes", spec := "percentDoes", inPlace := ["internal/bytealg.IndexByteString", "internal/abi.NoEscape", "internal/bytealg.IndexString"], named := ["internal/bytealg.MaxLen"], apart := false }
def PercentDoesSaid : Prop := percentDoesRow.holds Try.pinned (OpenSpec.ofChange percentDoesSpec)

/-- ITS FALSE NEIGHBOUR: 'it returns false'. Refute it at one input. -/
def percentDoesWrong : ChangeSpec := { name := "percentDoes", fn := fun _ => fun
  | [d1, d2] => { results := [.lit (.bool false)], args := [d1, d2] }
  | _ => none }
def PercentDoesWrongFalsely : Prop := percentDoesRow.holds Try.pinned (OpenSpec.ofChange percentDoesWrong)

/-- 'lacunalaw10.PercentBack': WHATEVER THE INPUT: true; the input reads as it did. -/
def percentBackSpec : ChangeSpec := { name := "percentBack", fn := fun _ => fun
  | [d1, d2] => { results := [.lit (.bool true)], args := [d1, d2] }
  | _ => none }
def percentBackRow : OpenClaim := { program := "ytgppagdnjhpojaa", sum := "1c5a992ce4c7820ee33eb4ee21c13e9fb9cdaffa54b6ddf5f5928c17e82ad2b2", func := "lacuna/lacunalaw10.PercentBack", spec := "percentBack", inPlace := ["internal/bytealg.IndexByteString", "internal/abi.NoEscape", "internal/bytealg.IndexString"], named := ["internal/bytealg.MaxLen"], apart := false }
def PercentBackSaid : Prop := percentBackRow.holds Try.pinned (OpenSpec.ofChange percentBackSpec)

/-- ITS FALSE NEIGHBOUR: 'it returns false'. Refute it at one input. -/
def percentBackWrong : ChangeSpec := { name := "percentBack", fn := fun _ => fun
  | [d1, d2] => { results := [.lit (.bool false)], args := [d1, d2] }
  | _ => none }
def PercentBackWrongFalsely : Prop := percentBackRow.holds Try.pinned (OpenSpec.ofChange percentBackWrong)

/-- 'lacunalaw10.PercentSafe': WHATEVER THE INPUT: true; the input reads as it did. -/
def percentSafeSpec : ChangeSpec := { name := "percentSafe", fn := fun _ => fun
  | [d1, d2] => { results := [.lit (.bool true)], args := [d1, d2] }
  | _ => none }
def percentSafeRow : OpenClaim := { program := "ytgppagdnjhpojaa", sum := "1c5a992ce4c7820ee33eb4ee21c13e9fb9cdaffa54b6ddf5f5928c17e82ad2b2", func := "lacuna/lacunalaw10.PercentSafe", spec := "percentSafe", inPlace := ["internal/bytealg.IndexByteString", "internal/abi.NoEscape", "internal/bytealg.IndexString"], named := ["internal/bytealg.MaxLen"], apart := false }
def PercentSafeSaid : Prop := percentSafeRow.holds Try.pinned (OpenSpec.ofChange percentSafeSpec)

/-- ITS FALSE NEIGHBOUR: 'it returns false'. Refute it at one input. -/
def percentSafeWrong : ChangeSpec := { name := "percentSafe", fn := fun _ => fun
  | [d1, d2] => { results := [.lit (.bool false)], args := [d1, d2] }
  | _ => none }
def PercentSafeWrongFalsely : Prop := percentSafeRow.holds Try.pinned (OpenSpec.ofChange percentSafeWrong)

/-- 'lacunalaw10.PercentSets': WHATEVER THE INPUT: true; the input reads as it did. -/
def percentSetsSpec : ChangeSpec := { name := "percentSets", fn := fun _ => fun
  | [d1, d2, d3] => { results := [.lit (.bool true)], args := [d1, d2, d3] }
  | _ => none }
def percentSetsRow : OpenClaim := { program := "ytgppagdnjhpojaa", sum := "1c5a992ce4c7820ee33eb4ee21c13e9fb9cdaffa54b6ddf5f5928c17e82ad2b2", func := "lacuna/lacunalaw10.PercentSets", spec := "percentSets", inPlace := ["internal/bytealg.IndexByteString", "internal/abi.NoEscape", "internal/bytealg.IndexString"], named := ["internal/bytealg.MaxLen"], apart := false }
def PercentSetsSaid : Prop := percentSetsRow.holds Try.pinned (OpenSpec.ofChange percentSetsSpec)

/-- ITS FALSE NEIGHBOUR: 'it returns false'. Refute it at one input. -/
def percentSetsWrong : ChangeSpec := { name := "percentSets", fn := fun _ => fun
  | [d1, d2, d3] => { results := [.lit (.bool false)], args := [d1, d2, d3] }
  | _ => none }
def PercentSetsWrongFalsely : Prop := percentSetsRow.holds Try.pinned (OpenSpec.ofChange percentSetsWrong)

/- THE SECOND FORM. 'bulk': how many values and letters a reading holds, each counted each time it is reached (what is shared counts as often as it is met; a slice's spare places count too). A statement '..UptoSaid' is the law's where the arguments, and the package variables that the reading takes, are together of bulk at most 1048576: NARROWER than '..Said'. Prove '..Said' where nothing that the law and all that it calls make is longer than what came in: it says more and counts as full. Else prove '..UptoSaid'. A law counts once. -/
mutual
def uptoBulk {H : Type} : DataW H → Nat
  | .lit (.string bytes) => bytes.length + 1
  | .lit _ => 1
  | .nil => 1
  | .ptr d => uptoBulk d + 1
  | .slice elems spare => uptoBulkAll elems + uptoBulkAll spare + 1
  | .agg parts => uptoBulkAll parts + 1
  | .iface _ d => uptoBulk d + 1
  | .map entries => uptoBulkEntries entries + 1
  | .held _ => 1
def uptoBulkAll {H : Type} : List (DataW H) → Nat
  | [] => 0
  | d :: r => uptoBulk d + uptoBulkAll r
def uptoBulkEntries {H : Type} : List (Lit × DataW H) → Nat
  | [] => 0
  | x :: r => uptoBulkEntry x + uptoBulkEntries r
def uptoBulkEntry {H : Type} : Lit × DataW H → Nat
  | (.string bytes, d) => bytes.length + uptoBulk d + 1
  | (_, d) => uptoBulk d + 1
 end
def uptoSmall : (H : Type) → List (DataW H) → Bool := fun _ ds => decide (uptoBulkAll ds ≤ 1048576)
def OpenSpec.upto (s : _root_.Go.ChangeSpec) : _root_.Go.OpenSpec := { _root_.Go.OpenSpec.ofChange s with cond := some uptoSmall }

/-- 'lacunalaw10.PercentDoes', WHERE WHAT IT READS IS OF BULK AT MOST 1048576: true; the input reads as it did. -/
def percentDoesUptoRow : OpenClaim := { program := "ytgppagdnjhpojaa", sum := "1c5a992ce4c7820ee33eb4ee21c13e9fb9cdaffa54b6ddf5f5928c17e82ad2b2", func := "lacuna/lacunalaw10.PercentDoes", spec := "percentDoes", inPlace := ["internal/bytealg.IndexByteString", "internal/abi.NoEscape", "internal/bytealg.IndexString"], named := ["internal/bytealg.MaxLen"], apart := false, narrowed := true }
def PercentDoesUptoSaid : Prop := percentDoesUptoRow.holds Try.pinned (OpenSpec.upto percentDoesSpec)

/-- 'lacunalaw10.PercentBack', WHERE WHAT IT READS IS OF BULK AT MOST 1048576: true; the input reads as it did. -/
def percentBackUptoRow : OpenClaim := { program := "ytgppagdnjhpojaa", sum := "1c5a992ce4c7820ee33eb4ee21c13e9fb9cdaffa54b6ddf5f5928c17e82ad2b2", func := "lacuna/lacunalaw10.PercentBack", spec := "percentBack", inPlace := ["internal/bytealg.IndexByteString", "internal/abi.NoEscape", "internal/bytealg.IndexString"], named := ["internal/bytealg.MaxLen"], apart := false, narrowed := true }
def PercentBackUptoSaid : Prop := percentBackUptoRow.holds Try.pinned (OpenSpec.upto percentBackSpec)

/-- 'lacunalaw10.PercentSafe', WHERE WHAT IT READS IS OF BULK AT MOST 1048576: true; the input reads as it did. -/
def percentSafeUptoRow : OpenClaim := { program := "ytgppagdnjhpojaa", sum := "1c5a992ce4c7820ee33eb4ee21c13e9fb9cdaffa54b6ddf5f5928c17e82ad2b2", func := "lacuna/lacunalaw10.PercentSafe", spec := "percentSafe", inPlace := ["internal/bytealg.IndexByteString", "internal/abi.NoEscape", "internal/bytealg.IndexString"], named := ["internal/bytealg.MaxLen"], apart := false, narrowed := true }
def PercentSafeUptoSaid : Prop := percentSafeUptoRow.holds Try.pinned (OpenSpec.upto percentSafeSpec)

/-- 'lacunalaw10.PercentSets', WHERE WHAT IT READS IS OF BULK AT MOST 1048576: true; the input reads as it did. -/
def percentSetsUptoRow : OpenClaim := { program := "ytgppagdnjhpojaa", sum := "1c5a992ce4c7820ee33eb4ee21c13e9fb9cdaffa54b6ddf5f5928c17e82ad2b2", func := "lacuna/lacunalaw10.PercentSets", spec := "percentSets", inPlace := ["internal/bytealg.IndexByteString", "internal/abi.NoEscape", "internal/bytealg.IndexString"], named := ["internal/bytealg.MaxLen"], apart := false, narrowed := true }
def PercentSetsUptoSaid : Prop := percentSetsUptoRow.holds Try.pinned (OpenSpec.upto percentSetsSpec)

end Rows
end Go.Proofs.Ytgppagdnjhpojaa
