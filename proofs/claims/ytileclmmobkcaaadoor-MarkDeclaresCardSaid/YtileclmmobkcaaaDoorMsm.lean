/-
  Contracts of lacunaref00.SameAttrs at no attributes and of SameToken at a token and itself. No condition.
-/
import Derived.Test.YtileclmmobkcaaaDoorMdj
import Derived.LoopN
set_option linter.unusedVariables false
namespace Go.Proofs.YtileclmmobkcaaaDoor
open Go.RowKit Go.Shelf

set_option maxRecDepth 100000 in
theorem sameAttrs_nil (w : World) : Calls Tryd.prog 23 #[.slice none 0 0, .slice none 0 0] w fun e w' => e = .returned (.bool true) ∧ w' = w := by
  go_enter Tryd.func23, Tryd.ntmps23
  go_wp2
  refine wp_loop_rounds 1 ?_
  rw [rounds_succ]
  go_wp2
  go_ret
  exact ⟨rfl, rfl⟩

set_option maxRecDepth 100000 in
set_option maxHeartbeats 1000000 in
theorem same_self (t : Tk) (w : World) : Calls Tryd.prog 10 #[.agg (tkCells t), .agg (tkCells t)] w fun e w' => e = .returned (.bool true) ∧ Below w.heap.size w w' := by
  obtain ⟨kind, name, text, pub, sys, hp, hs, q⟩ := t
  unfold tkCells
  dsimp only
  generalize (⟨name.toArray⟩ : ByteArray) = name
  generalize (⟨text.toArray⟩ : ByteArray) = text
  generalize (⟨pub.toArray⟩ : ByteArray) = pub
  generalize (⟨sys.toArray⟩ : ByteArray) = sys
  go_enter Tryd.func10, Tryd.ntmps10
  have hb0 : Below w.heap.size w ((w.alloc (.cells #[.int .u8 kind, .string name, .slice none 0 0, .bool false, .string text, .string pub, .string sys, .bool hp, .bool hs, .bool q] 26)).alloc (.cells #[.int .u8 kind, .string name, .slice none 0 0, .bool false, .string text, .string pub, .string sys, .bool hp, .bool hs, .bool q] 26)) :=
    ((Below.refl _ w).alloc (Nat.le_refl _) _).alloc (by simp) _
  go_wp2_with (go_at_call 23; refine (sameAttrs_nil _).mono ?_; rintro e w' ⟨rfl, rfl⟩)
  go_ret
  exact ⟨rfl, hb0⟩
end Go.Proofs.YtileclmmobkcaaaDoor
