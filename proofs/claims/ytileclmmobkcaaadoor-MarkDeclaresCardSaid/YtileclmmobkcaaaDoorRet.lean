/-
  Small equations between endings of calls. No condition.
-/
import Derived.Calls
import Derived.Lib.Strings
namespace Go.Proofs.YtileclmmobkcaaaDoor
theorem ret_bool {a b : Bool} (h : a = b) : Ending.returned (.bool a) = .returned (.bool b) := by rw [h]
theorem ret_i64 {a b : Int} (h : a = b) : Ending.returned (.int .i64 a) = .returned (.int .i64 b) := by rw [h]
theorem ret_str {a b : List UInt8} (h : a = b) : Ending.returned (.string ⟨a.toArray⟩) = .returned (.string ⟨b.toArray⟩) := by rw [h]
theorem ret_str' {a : ByteArray} {b : List UInt8} (h : a.data.toList = b) : Ending.returned (.string a) = .returned (.string ⟨b.toArray⟩) := by rw [← h, Lib.mk_data]
end Go.Proofs.YtileclmmobkcaaaDoor
