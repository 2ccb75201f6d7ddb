/-
  Contracts of text.Space, lacunaref01.Space, Alpha and Digit. No condition.
-/
import Derived.Test.YtileclmmobkcaaaDoorBas
set_option linter.unusedVariables false
namespace Go.Proofs.YtileclmmobkcaaaDoor
open Go.RowKit

def isSpc (r : Int) : Bool := decide (r = 9 ∨ r = 10 ∨ r = 12 ∨ r = 13 ∨ r = 32)
theorem space_calls (r : Int) (w : World) : Calls Tryd.prog 36 #[.int .i32 r] w fun e w' => e = .returned (.bool (isSpc r)) ∧ w = w' := by
  by_cases h9 : r = 9
  · subst h9
    have H : Hid (isSpc 9 = true) := rfl
    go_enter Tryd.func36, Tryd.ntmps36
    go_wp2
    go_ret
    exact ⟨ret_bool H.out.symm, rfl⟩
  by_cases h10 : r = 10
  · subst h10
    have H : Hid (isSpc 10 = true) := rfl
    go_enter Tryd.func36, Tryd.ntmps36
    go_wp2
    go_ret
    exact ⟨ret_bool H.out.symm, rfl⟩
  by_cases h12 : r = 12
  · subst h12
    have H : Hid (isSpc 12 = true) := rfl
    go_enter Tryd.func36, Tryd.ntmps36
    go_wp2
    go_ret
    exact ⟨ret_bool H.out.symm, rfl⟩
  by_cases h13 : r = 13
  · subst h13
    have H : Hid (isSpc 13 = true) := rfl
    go_enter Tryd.func36, Tryd.ntmps36
    go_wp2
    go_ret
    exact ⟨ret_bool H.out.symm, rfl⟩
  by_cases h32 : r = 32
  · subst h32
    have H : Hid (isSpc 32 = true) := rfl
    go_enter Tryd.func36, Tryd.ntmps36
    go_wp2
    go_ret
    exact ⟨ret_bool H.out.symm, rfl⟩
  have H : Hid (isSpc r = false) := by unfold Hid isSpc; simp; omega
  have k9 : (r == 9) = false := beq_eq_false_iff_ne.2 h9
  have k10 : (r == 10) = false := beq_eq_false_iff_ne.2 h10
  have k12 : (r == 12) = false := beq_eq_false_iff_ne.2 h12
  have k13 : (r == 13) = false := beq_eq_false_iff_ne.2 h13
  have k32 : (r == 32) = false := beq_eq_false_iff_ne.2 h32
  clear h9 h10 h12 h13 h32
  go_enter Tryd.func36, Tryd.ntmps36
  go_wp2
  go_ret
  exact ⟨ret_bool H.out.symm, rfl⟩

theorem spaceR_calls (r : Int) (w : World) : Calls Tryd.prog 49 #[.int .i32 r] w fun e w' => e = .returned (.bool (isSpc r)) ∧ w = w' := by
  by_cases h9 : r = 9
  · subst h9
    have H : Hid (isSpc 9 = true) := rfl
    go_enter Tryd.func49, Tryd.ntmps49
    go_wp2
    go_ret
    exact ⟨ret_bool H.out.symm, rfl⟩
  by_cases h10 : r = 10
  · subst h10
    have H : Hid (isSpc 10 = true) := rfl
    go_enter Tryd.func49, Tryd.ntmps49
    go_wp2
    go_ret
    exact ⟨ret_bool H.out.symm, rfl⟩
  by_cases h12 : r = 12
  · subst h12
    have H : Hid (isSpc 12 = true) := rfl
    go_enter Tryd.func49, Tryd.ntmps49
    go_wp2
    go_ret
    exact ⟨ret_bool H.out.symm, rfl⟩
  by_cases h13 : r = 13
  · subst h13
    have H : Hid (isSpc 13 = true) := rfl
    go_enter Tryd.func49, Tryd.ntmps49
    go_wp2
    go_ret
    exact ⟨ret_bool H.out.symm, rfl⟩
  by_cases h32 : r = 32
  · subst h32
    have H : Hid (isSpc 32 = true) := rfl
    go_enter Tryd.func49, Tryd.ntmps49
    go_wp2
    go_ret
    exact ⟨ret_bool H.out.symm, rfl⟩
  have H : Hid (isSpc r = false) := by unfold Hid isSpc; simp; omega
  have k9 : (r == 9) = false := beq_eq_false_iff_ne.2 h9
  have k10 : (r == 10) = false := beq_eq_false_iff_ne.2 h10
  have k12 : (r == 12) = false := beq_eq_false_iff_ne.2 h12
  have k13 : (r == 13) = false := beq_eq_false_iff_ne.2 h13
  have k32 : (r == 32) = false := beq_eq_false_iff_ne.2 h32
  clear h9 h10 h12 h13 h32
  go_enter Tryd.func49, Tryd.ntmps49
  go_wp2
  go_ret
  exact ⟨ret_bool H.out.symm, rfl⟩

end Go.Proofs.YtileclmmobkcaaaDoor
