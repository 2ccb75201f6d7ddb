/-
  The contract of the document's answer (lacunaref04): doctype. The condition: the text takes at most 2 to the 24th bytes.
-/
import Derived.Test.YtileclmmobkcaaaDoorMr1
import Derived.Test.YtileclmmobkcaaaDoorMr2
import Derived.Test.YtileclmmobkcaaaDoorMr3
import Derived.Test.YtileclmmobkcaaaDoorMr4
import Derived.Test.YtileclmmobkcaaaDoorMr5
import Derived.Test.YtileclmmobkcaaaDoorMr7
import Derived.Test.YtileclmmobkcaaaDoorMr8
import Derived.Test.YtileclmmobkcaaaDoorMr9
import Derived.Test.YtileclmmobkcaaaDoorMr10
import Derived.Test.YtileclmmobkcaaaDoorMr11
set_option linter.unusedVariables false
namespace Go.Proofs.YtileclmmobkcaaaDoor
open Go.RowKit Go.Shelf

theorem doctypeR_calls (s : ByteArray) (n : Nat) (r : List UInt8) (hs : s.size ≤ 16777216) (hr : Ps s n r) (w : World) :
    Calls Tryd.prog 21 #[.string s, .int .i64 n] w (TR w (dR 0 1 0 { kind := 5 } r).1 ((s.size - (dR 0 1 0 { kind := 5 } r).2.1.length : Nat) : Int) (dR 0 1 0 { kind := 5 } r).2.2) :=
  (doctypeCap s n r hs hr w).2 fun st h => by
    simp only [List.mem_cons, List.not_mem_nil, or_false] at h
    rcases h with rfl | rfl | rfl | rfl | rfl | rfl | rfl | rfl | rfl | rfl
    · exact doctype_st1 s n r hs hr w
    · exact doctype_st2 s n r hs hr w
    · exact doctype_st3 s n r hs hr w
    · exact doctype_st4 s n r hs hr w
    · exact doctype_st5 s n r hs hr w
    · exact doctype_st7 s n r hs hr w
    · exact doctype_st8 s n r hs hr w
    · exact doctype_st9 s n r hs hr w
    · exact doctype_st10 s n r hs hr w
    · exact doctype_st11 s n r hs hr w
end Go.Proofs.YtileclmmobkcaaaDoor
