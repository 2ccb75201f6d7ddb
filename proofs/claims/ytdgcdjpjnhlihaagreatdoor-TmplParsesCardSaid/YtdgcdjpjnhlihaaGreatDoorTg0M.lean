/-
  The contract of lacunaref00.WeighParts. The condition: lists and texts of at most 2 to the 47th bytes.
-/
import Derived.Test.YtdgcdjpjnhlihaaGreatDoorMgTs0
set_option linter.unusedSimpArgs false
set_option linter.unusedVariables false
namespace Go.Proofs.YtdgcdjpjnhlihaaGreatDoor
open Go.RowKit Go.Shelf
attribute [local go_sem ↓] Go.wp_at_zero Go.wp_at_succ

def nsz (l : List ByteArray) : Nat := (l.map ByteArray.size).sum
def hw (h : Hd) : Nat := h.text.size + h.name.size + h.names.length + nsz h.names
def wq : Pt → Nat
  | .nil => 0
  | .cons h k e r => hw h + (k.len + wq k) + (e.len + wq e) + wq r
/-- How many things parts have. -/
def wt (t : Pt) : Nat := t.len + wq t
/-- Nothing but draws. -/
def Qt (w w' : World) : Prop := ∃ n, w' = w.drewN n
theorem Qt.refl (w : World) : Qt w w := ⟨0, rfl⟩
theorem Qt.trans {a b c : World} (h : Qt a b) (k : Qt b c) : Qt a c := by
  obtain ⟨n, rfl⟩ := h
  obtain ⟨m, rfl⟩ := k
  exact ⟨n + m, by rw [World.drewN_drewN]⟩
theorem Qt.drewN {a b : World} (h : Qt a b) (n : Nat) : Qt a (b.drewN n) := h.trans ⟨n, rfl⟩
theorem Qt.cell {a b : World} (h : Qt a b) (p : Addr) : b.cell? p = a.cell? p := by obtain ⟨n, rfl⟩ := h; rfl
theorem Qt.block {a b : World} (h : Qt a b) (k : Nat) : b.heap[k]? = a.heap[k]? := by obtain ⟨n, rfl⟩ := h; rfl
end Go.Proofs.YtdgcdjpjnhlihaaGreatDoor
