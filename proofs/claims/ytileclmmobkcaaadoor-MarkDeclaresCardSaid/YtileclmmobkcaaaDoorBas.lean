/-
  The ground of a seat's walks: blocks by their cells; the library's variable MaxLen. No condition.
-/
import Derived.Test.YtileclmmobkcaaaDoorRet
import Derived.Test.YtileclmmobkcaaaDoorLib
import Derived.WalkKit
import Derived.WalkSpells
import Derived.WalkLawsBesides
import Derived.Lib.Hide
import Derived.Outline
import Derived.Below
import Derived.BigQuiet
import Derived.Deep.QuietTactic
import Derived.Deep.RegionWith
import Derived.Laws.BytesArg
import Derived.Laws.Rows
import Derived.Laws.IdiomStrings
import Derived.IntWalk
set_option linter.unusedVariables false
namespace Go.Proofs.YtileclmmobkcaaaDoor
open Go.RowKit Go.Shelf

theorem cell_of_heap' {w : World} {b : Nat} {cs : Array Value} {T : TypeId} {fr : Nat × Nat} (hb : w.heap[b]? = some (.cells cs T fr)) (j : Nat) : w.cell? ⟨b, j, none⟩ = cs[j]? := by
  simp [World.cell?, hb]
theorem frozen_cells {w : World} {b : Nat} {cs : Array Value} {T : TypeId} (hb : w.heap[b]? = some (.cells cs T (0, 0))) : ∀ j, w.frozen? ⟨b, j, none⟩ = false := by
  intro j
  simp [World.frozen?, hb]
theorem lt_of_block {w : World} {b : Nat} {o : Obj} (h : w.heap[b]? = some o) : b < w.heap.size := (Array.getElem?_eq_some_iff.1 h).1
/-- The library's variable MaxLen holds some number. -/
def Sh (w : World) : Prop := ∃ m, w.cell? ⟨0, 0, none⟩ = some (.int .i64 m)
theorem Sh.lt {w : World} (h : Sh w) : 0 < w.heap.size := by
  obtain ⟨m, hm⟩ := h
  rcases Nat.lt_or_ge 0 w.heap.size with h | h
  · exact h
  · simp [World.cell?, Array.getElem?_eq_none h] at hm
theorem Sh.below {w w' : World} (h : Sh w) (hb : Below w.heap.size w w') : Sh w' := by
  obtain ⟨m, hm⟩ := h
  exact ⟨m, (hb.cell (p := ⟨0, 0, none⟩) (Sh.lt ⟨m, hm⟩)).trans hm⟩
theorem sh_of_shaped {w : World} (h : w.ShapedOpen Tryd.prog) : Sh w := Lb.Mn143.s1_3 w h
theorem byte_get (s : ByteArray) (k : Nat) (hk : k < s.size) : s.data.toList.getD k 0 = s[k] := by
  unfold List.getD
  rw [List.getElem?_eq_getElem (by simpa using hk)]; rfl
theorem mk_list (s : ByteArray) : (⟨s.data.toList.toArray⟩ : ByteArray) = s := by simp
end Go.Proofs.YtileclmmobkcaaaDoor
