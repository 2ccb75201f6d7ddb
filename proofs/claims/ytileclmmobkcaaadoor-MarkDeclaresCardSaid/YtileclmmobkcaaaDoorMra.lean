/-
  Contracts of the document's answer (lacunaref04): add, Bogus, cdata, word, space. The condition: the text takes at most 2 to the 40th bytes.
-/
import Derived.Test.YtileclmmobkcaaaDoorMdc
import Derived.Laws.IdiomStrings
set_option linter.unusedVariables false
namespace Go.Proofs.YtileclmmobkcaaaDoor
open Go.RowKit Go.Shelf

theorem byte_cell (c : UInt8) : (Lib.byteCells [c]).toArray = #[.int .u8 (c.toNat : Nat)] := rfl
theorem conv_one (w : World) (c : UInt8) : (convert 49 9 (.slice (some ⟨w.heap.size, 0, none⟩) 1 1)).run Tryd.prog (w.alloc (.cells #[.int .u8 (c.toNat : Nat)] 5)) = .ok (.string ⟨#[c]⟩) (w.alloc (.cells #[.int .u8 (c.toNat : Nat)] 5)) := by
  refine run_convert_bytes_back (P := Tryd.prog) _ 49 9 5 ⟨w.heap.size, 0, none⟩ 1 [c] Tryd.underlying49 Tryd.underlying5 Tryd.underlying9 ?_
  intro j hj
  obtain rfl : j = 0 := by simpa using hj
  have hb := heap_alloc_new w (.cells #[.int .u8 (c.toNat : Nat)] 5)
  have hadd : (⟨w.heap.size, 0, none⟩ : Addr).add 0 = ⟨w.heap.size, 0, none⟩ := by unfold Addr.add; split <;> simp_all
  rw [hadd, cell_of_heap' hb]
  rfl

set_option maxRecDepth 100000 in
theorem add_calls (x : ByteArray) (c : UInt8) (hx : x.size ≤ 1099511627776) (w : World) :
    Calls Tryd.prog 25 #[.string x, .int .u8 (c.toNat : Nat)] w fun e w' => e = .returned (.string ⟨(x.data.toList ++ whB c).toArray⟩) ∧ Below w.heap.size w w' := by
  have hc := c.toNat_lt
  by_cases h : c = 0
  · have hb : (((c.toNat : Nat) : Int) == 0) = true := by rw [h]; rfl
    have HW : Hid (whB c = [239, 191, 189]) := by unfold Hid whB; rw [if_pos h]
    clear h
    go_enter Tryd.func25, Tryd.ntmps25
    go_wp2
    go_ret
    exact ⟨ret_str' (by rw [HW.out]; simp), Below.refl _ _⟩
  · have hb : (((c.toNat : Nat) : Int) == 0) = false := by
      rw [beq_eq_false_iff_ne]
      intro e
      exact h (UInt8.toNat_inj.1 (by show _ = 0; omega))
    have HW : Hid (whB c = [c]) := by unfold Hid whB; rw [if_neg h]
    have hcv := fun w => conv_one w c
    clear h
    go_enter Tryd.func25, Tryd.ntmps25
    go_wp2
    go_ret
    exact ⟨ret_str' (by rw [HW.out]; simp), (Below.refl _ w).alloc (Nat.le_refl _) _⟩
end Go.Proofs.YtileclmmobkcaaaDoor
