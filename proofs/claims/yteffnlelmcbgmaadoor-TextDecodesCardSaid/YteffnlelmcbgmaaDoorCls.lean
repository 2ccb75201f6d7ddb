/-
  The contract of (*text.Decoder).Close. The condition: the bytes take at most 2 to the 28th bytes; the tables read as they were laid.
-/
import Derived.Test.YteffnlelmcbgmaaDoorTxe
set_option linter.unusedVariables false
namespace Go.Proofs.YteffnlelmcbgmaaDoor
open Go.RowKit Go.Shelf

set_option maxRecDepth 100000 in
theorem close_calls (D : Nat) (part : ByteArray) (cr : Bool) (w : World) (hs : part.size ≤ 268435456) (hT : Tabs w) (hD : w.heap[D]? = some (.cells #[.string part, .bool cr] 33 (0, 0))) :
    Calls Tryd.prog 14 #[.pointer (some ⟨D, 0, none⟩)] w fun e w' =>
      e = .returned (.string ⟨(decd part.data.toList).toArray⟩) ∧
      w'.heap[D]? = some (.cells #[.string ⟨#[]⟩, .bool false] 33 (0, 0)) ∧ Below D w w' := by
  have hDlt : D < w.heap.size := (Array.getElem?_eq_some_iff.1 hD).1
  have d0 : w.cell? ⟨D, 0, none⟩ = some (.string part) := by rw [cell_of_heap' hD]; rfl
  have d1 : w.cell? ⟨D, 1, none⟩ = some (.bool cr) := by rw [cell_of_heap' hD]; rfl
  have HT := Lib.hid hT
  clear hT
  go_enter Tryd.func14, Tryd.ntmps14
  go_wp2_with fail
  refine (decodeT_calls part _ (by omega) HT.out).mono ?_
  rintro e w1 ⟨rfl, hb1⟩
  have hD1 : w1.heap[D]? = _ := (hb1.block D hDlt).trans hD
  have e0 : w1.cell? ⟨D, 0, none⟩ = some (.string part) := by rw [cell_of_heap' hD1]; rfl
  have e1 : w1.cell? ⟨D, 1, none⟩ = some (.bool cr) := by rw [cell_of_heap' hD1]; rfl
  have ef : ∀ j, w1.frozen? ⟨D, j, none⟩ = false := frozen_at rfl hD1
  go_wp2
  go_ret
  refine ⟨rfl, ?_, ?_⟩
  · simp [World.setCell, Array.getElem?_modify, hD1]
  · have hb1' : Below D w w1 := hb1.mono (by omega)
    exact (hb1'.setCell (p := ⟨D, 0, none⟩) (Nat.le_refl _) _).setCell (p := ⟨D, 1, none⟩) (Nat.le_refl _) _
end Go.Proofs.YteffnlelmcbgmaaDoor
