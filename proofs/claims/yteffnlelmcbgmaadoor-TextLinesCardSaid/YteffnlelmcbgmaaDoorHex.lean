/-
  Contracts of text.Digit, text.Alpha, text.Hex and lacunaref01.Hex, at every int32. No other condition.
-/
import Derived.Test.YteffnlelmcbgmaaDoorRet
import Derived.Test.YteffnlelmcbgmaaDoorProg
import Derived.Test.YteffnlelmcbgmaaDoorHexm
import Derived.WalkKit
import Derived.WalkSpells
import Derived.WalkLawsBesides
import Derived.Lib.Hide
import Derived.Outline
set_option linter.unusedVariables false
namespace Go.Proofs.YteffnlelmcbgmaaDoor
open Go.RowKit


theorem digit_calls (r : Int) (w : World) :
    Calls Tryd.prog 25 #[.int .i32 r] w fun e w' => e = .returned (.bool (isDigit r)) ∧ w = w' := by
  by_cases h1 : 48 ≤ r
  · by_cases h2 : r ≤ 57
    · have H : Hid (isDigit r = true) := by unfold Hid isDigit; simp; omega
      go_enter Tryd.func25, Tryd.ntmps25
      go_wp2
      go_ret
      exact ⟨ret_bool H.out.symm, rfl⟩
    · have H : Hid (isDigit r = false) := by unfold Hid isDigit; simp; omega
      have h3 : 57 < r := by omega
      go_enter Tryd.func25, Tryd.ntmps25
      go_wp2
      go_ret
      exact ⟨ret_bool H.out.symm, rfl⟩
  · have H : Hid (isDigit r = false) := by unfold Hid isDigit; simp; omega
    have h3 : r < 48 := by omega
    go_enter Tryd.func25, Tryd.ntmps25
    go_wp2
    go_ret
    exact ⟨ret_bool H.out.symm, rfl⟩

theorem alpha_calls (r : Int) (w : World) (g0 : -2147483648 ≤ r) (g1 : r ≤ 2147483647) :
    Calls Tryd.prog 23 #[.int .i32 r] w fun e w' => e = .returned (.bool (isAlpha r)) ∧ w = w' := by
  have HO := or32 r g0 g1
  have HA : Hid (isAlpha r = decide (97 ≤ bits .or .i32 r 32 ∧ bits .or .i32 r 32 ≤ 122)) := by
    unfold Hid isAlpha
    rw [HO]
    apply decide_eq_decide.2
    split <;> omega
  clear HO
  by_cases h1 : 97 ≤ bits .or .i32 r 32
  · by_cases h2 : bits .or .i32 r 32 ≤ 122
    · go_enter Tryd.func23, Tryd.ntmps23
      go_wp2
      go_ret
      exact ⟨ret_bool (by rw [HA.out]; simp [h1, h2]), rfl⟩
    · have h3 : 122 < bits .or .i32 r 32 := by omega
      go_enter Tryd.func23, Tryd.ntmps23
      go_wp2
      go_ret
      exact ⟨ret_bool (by rw [HA.out]; simp [h1, h2]), rfl⟩
  · have h3 : bits .or .i32 r 32 < 97 := by omega
    go_enter Tryd.func23, Tryd.ntmps23
    go_wp2
    go_ret
    exact ⟨ret_bool (by rw [HA.out, decide_eq_false (by omega)]), rfl⟩

theorem hex_calls (r : Int) (w : World) (g0 : -2147483648 ≤ r) (g1 : r ≤ 2147483647) :
    Calls Tryd.prog 27 #[.int .i32 r] w fun e w' => e = .returned (.int .i64 (hexv r)) ∧ w = w' := by
  by_cases d : 48 ≤ r ∧ r ≤ 57
  · have HD : Hid (isDigit r = true) := by unfold Hid isDigit; simpa using d
    have HV : Hid (hexv r = r - 48) := by unfold Hid hexv; rw [if_pos d]
    obtain ⟨d1, d2⟩ := d
    go_enter Tryd.func27, Tryd.ntmps27
    go_wp2_with (go_at_call 25; refine (digit_calls _ _).mono ?_; rw [HD.out]; rintro e w' ⟨rfl, rfl⟩)
    go_ret
    exact ⟨ret_i64 HV.out.symm, rfl⟩
  have HD : Hid (isDigit r = false) := by unfold Hid isDigit; simp; omega
  have HO := or32 r g0 g1
  by_cases a : (65 ≤ r ∧ r ≤ 90) ∨ (97 ≤ r ∧ r ≤ 122)
  · have HA : Hid (isAlpha r = true) := by unfold Hid isAlpha; simpa using a
    have hb : 97 ≤ bits .or .i32 r 32 ∧ bits .or .i32 r 32 ≤ 122 := by rw [HO]; split <;> omega
    obtain ⟨hb1, hb2⟩ := hb
    by_cases h : bits .or .i32 r 32 ≤ 102
    · have HV : Hid (hexv r = bits .or .i32 r 32 - 97 + 10) := by
        unfold Hid hexv
        rw [if_neg d]
        rw [HO] at h hb1 ⊢
        split
        · split at h <;> split at hb1 <;> rw [if_pos (by omega)] <;> omega
        · split at h <;> split at hb1 <;> first | (rw [if_neg (by omega), if_pos (by omega), if_neg (by omega)]; omega) | omega
      clear HO a d
      go_enter Tryd.func27, Tryd.ntmps27
      go_wp2_with (first | (go_at_call 25; refine (digit_calls _ _).mono ?_; rw [HD.out]; rintro e w' ⟨rfl, rfl⟩) | (go_at_call 23; refine (alpha_calls _ _ g0 g1).mono ?_; rw [HA.out]; rintro e w' ⟨rfl, rfl⟩))
      go_ret
      exact ⟨ret_i64 HV.out.symm, rfl⟩
    · have HV : Hid (hexv r = -1) := by
        unfold Hid hexv
        rw [HO] at h
        rw [if_neg d]
        split at h <;> rw [if_neg (by omega), if_neg (by omega)]
      have h' : 102 < bits .or .i32 r 32 := by omega
      clear HO a d
      go_enter Tryd.func27, Tryd.ntmps27
      go_wp2_with (first | (go_at_call 25; refine (digit_calls _ _).mono ?_; rw [HD.out]; rintro e w' ⟨rfl, rfl⟩) | (go_at_call 23; refine (alpha_calls _ _ g0 g1).mono ?_; rw [HA.out]; rintro e w' ⟨rfl, rfl⟩))
      go_ret
      exact ⟨ret_i64 HV.out.symm, rfl⟩
  · have HA : Hid (isAlpha r = false) := by unfold Hid isAlpha; simp; omega
    have HV : Hid (hexv r = -1) := by
      unfold Hid hexv
      rw [if_neg d, if_neg (by omega), if_neg (by omega)]
    clear HO a d
    go_enter Tryd.func27, Tryd.ntmps27
    go_wp2_with (first | (go_at_call 25; refine (digit_calls _ _).mono ?_; rw [HD.out]; rintro e w' ⟨rfl, rfl⟩) | (go_at_call 23; refine (alpha_calls _ _ g0 g1).mono ?_; rw [HA.out]; rintro e w' ⟨rfl, rfl⟩))
    go_ret
    exact ⟨ret_i64 HV.out.symm, rfl⟩

theorem refHex_calls (r : Int) (w : World) (g0 : -2147483648 ≤ r) (g1 : r ≤ 2147483647) :
    Calls Tryd.prog 28 #[.int .i32 r] w fun e w' => e = .returned (.int .i64 (hexv r)) ∧ w = w' := by
  by_cases a1 : r < 48
  · have HV : Hid (hexv r = -1) := by
      unfold Hid hexv; rw [if_neg (by omega), if_neg (by omega), if_neg (by omega)]
    go_enter Tryd.func28, Tryd.ntmps28
    go_wp2
    go_ret
    exact ⟨ret_i64 HV.out.symm, rfl⟩
  have b1 : 48 ≤ r := by omega
  clear a1
  by_cases a2 : r ≤ 57
  · have HV : Hid (hexv r = r - 48) := by
      unfold Hid hexv; rw [if_pos (by omega)]
    go_enter Tryd.func28, Tryd.ntmps28
    go_wp2
    go_ret
    exact ⟨ret_i64 HV.out.symm, rfl⟩
  have b2 : 57 < r := by omega
  clear a2
  by_cases a3 : r < 65
  · have HV : Hid (hexv r = -1) := by
      unfold Hid hexv; rw [if_neg (by omega), if_neg (by omega), if_neg (by omega)]
    go_enter Tryd.func28, Tryd.ntmps28
    go_wp2
    go_ret
    exact ⟨ret_i64 HV.out.symm, rfl⟩
  have b3 : 65 ≤ r := by omega
  clear a3
  by_cases a4 : r ≤ 70
  · have HV : Hid (hexv r = r - 65 + 10) := by
      unfold Hid hexv; rw [if_neg (by omega), if_pos (by omega)]; omega
    go_enter Tryd.func28, Tryd.ntmps28
    go_wp2
    go_ret
    exact ⟨ret_i64 HV.out.symm, rfl⟩
  have b4 : 70 < r := by omega
  clear a4
  by_cases a5 : r < 97
  · have HV : Hid (hexv r = -1) := by
      unfold Hid hexv; rw [if_neg (by omega), if_neg (by omega), if_neg (by omega)]
    go_enter Tryd.func28, Tryd.ntmps28
    go_wp2
    go_ret
    exact ⟨ret_i64 HV.out.symm, rfl⟩
  have b5 : 97 ≤ r := by omega
  clear a5
  by_cases a6 : r ≤ 102
  · have HV : Hid (hexv r = r - 97 + 10) := by
      unfold Hid hexv; rw [if_neg (by omega), if_neg (by omega), if_pos (by omega)]; omega
    go_enter Tryd.func28, Tryd.ntmps28
    go_wp2
    go_ret
    exact ⟨ret_i64 HV.out.symm, rfl⟩
  · have HV : Hid (hexv r = -1) := by
      unfold Hid hexv; rw [if_neg (by omega), if_neg (by omega), if_neg (by omega)]
    have b6 : 102 < r := by omega
    go_enter Tryd.func28, Tryd.ntmps28
    go_wp2
    go_ret
    exact ⟨ret_i64 HV.out.symm, rfl⟩
end Go.Proofs.YteffnlelmcbgmaaDoor
