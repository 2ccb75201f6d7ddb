/-
  The contract of lacunalaw10.works: it returns true. The condition: the library's variable MaxLen holds some number.
-/
import Derived.Test.YtgppagdnjhpojaaPct
import Derived.Test.YtgppagdnjhpojaaEnc10
import Derived.Test.YtgppagdnjhpojaaDec
set_option linter.unusedVariables false
namespace Go.Proofs.Ytgppagdnjhpojaa
open Go.RowKit

theorem works_enc (set : Int) (r : List UInt8) (g0 : 0 ≤ set) (g1 : set < 256) (hr : enc set [97, 32, 98, 63, 195, 169, 37] = r) (w : World) :
    Calls Try.prog 10 #[.string ⟨#[97, 32, 98, 63, 195, 169, 37]⟩, .int .u8 set] w fun e w' => e = .returned (.string ⟨r.toArray⟩) ∧ Below w.heap.size w w' := by
  subst hr
  exact encode_calls ⟨#[97, 32, 98, 63, 195, 169, 37]⟩ set w (by decide) g0 g1
theorem works_dec (r : List UInt8) (hr : dec [37, 52, 49, 37, 52, 37, 122, 122, 37, 52, 97] = r) (w : World) (hsh : Sh w) :
    Calls Try.prog 12 #[.string ⟨#[37, 52, 49, 37, 52, 37, 122, 122, 37, 52, 97]⟩] w fun e w' => e = .returned (.string ⟨r.toArray⟩) ∧ Below w.heap.size w w' := by
  subst hr
  exact decode_calls ⟨#[37, 52, 49, 37, 52, 37, 122, 122, 37, 52, 97]⟩ w (by decide) hsh

set_option maxRecDepth 100000 in
theorem works_calls (w : World) (hsh : Sh w) :
    Calls Try.prog 7 #[] w fun e w' => e = .returned (.bool true) ∧ Below w.heap.size w w' := by
  have h1 := works_enc 4 [97, 37, 50, 48, 98, 37, 51, 70, 37, 67, 51, 37, 65, 57, 37] (by decide) (by decide) (by decide +kernel)
  have h2 := works_enc 6 [97, 37, 50, 48, 98, 37, 51, 70, 37, 67, 51, 37, 65, 57, 37, 50, 53] (by decide) (by decide) (by decide +kernel)
  have h3 := works_dec [65, 37, 52, 37, 122, 122, 74] (by decide +kernel)
  have h4 : pin 0 9 = true := by decide
  have h5 : pin 97 6 = false := by decide
  have H1 := Lib.hid h1
  have H2 := Lib.hid h2
  have H3 := Lib.hid h3
  have HS := Lib.hid hsh
  clear h1 h2 h3 hsh
  go_enter Try.func7, Try.ntmps7
  go_wp2_with fail
  refine (H1.out _).mono ?_
  rintro e w1 ⟨rfl, hb1⟩
  go_wp2_with fail
  refine (H2.out _).mono ?_
  rintro e w2 ⟨rfl, hb2⟩
  have hb2' := hb1.trans (hb2.mono hb1.size)
  clear hb1 hb2
  go_wp2_with fail
  refine (H3.out _ (HS.out.below hb2')).mono ?_
  rintro e w3 ⟨rfl, hb3⟩
  have hb3' := hb2'.trans (hb3.mono hb2'.size)
  clear hb2' hb3
  go_wp2_with fail
  refine (in_calls 0 9 _ (by omega) (by omega) (by omega) (by omega)).mono ?_
  rintro e w4 ⟨rfl, rfl⟩
  go_wp2_with fail
  refine (in_calls 97 6 _ (by omega) (by omega) (by omega) (by omega)).mono ?_
  rintro e w4 ⟨rfl, rfl⟩
  go_wp2
  go_ret
  exact ⟨rfl, hb3'⟩
end Go.Proofs.Ytgppagdnjhpojaa
