/-
  Contracts of percent.In, lacunaref10.has and lacunaref10.In: each tells whether a byte is one of a set. No condition but the ranges of the kinds.
-/
import Derived.Test.YtgppagdnjhpojaaRet
import Derived.Test.YtgppagdnjhpojaaLib
import Derived.Test.YtgppagdnjhpojaaMath
import Derived.WalkKit
import Derived.WalkSpells
import Derived.WalkLawsBesides
import Derived.BigQuiet
import Derived.Deep.QuietTactic
import Derived.Lib.Hide
import Derived.Outline
set_option linter.unusedVariables false
namespace Go.Proofs.Ytgppagdnjhpojaa
open Go.RowKit


theorem indexByte_calls (s : ByteArray) (c : Int) (w : World) :
    Calls Try.prog 14 #[.string s, .int .u8 c] w fun e w' => e = .returned (.int .i64 (ixb s.data.toList c)) ∧ w' = w := Any.strings_IndexByte Lb.n137 s c w

theorem has_calls (s : ByteArray) (c : Int) (w : World) (hs : s.size ≤ maxLen) :
    Calls Try.prog 15 #[.string s, .int .u8 c] w fun e w' => e = .returned (.bool (mem s.data.toList c)) ∧ w = w' := by
  unfold maxLen at hs
  go_enter Try.func15, Try.ntmps15
  go_wp2
  go_loop [5] (fun i => ∃ k : Nat, k ≤ s.size ∧ i = .int .i64 k ∧ mem (s.data.toList.take k) c = false) (fun i => s.size - (intOf i).toNat)
  case atStart => exact ⟨0, Nat.zero_le _, rfl, rfl⟩
  case round =>
    obtain ⟨k, hk, rfl, hm⟩ := hrel
    have HM := Lib.hid hm
    clear hm
    by_cases hlt : k < s.size
    · have hsn : mem (s.data.toList.take (k + 1)) c = (mem (s.data.toList.take k) c || ((s[k].toNat : Int) == c)) := mem_take_succ s.data.toList k (by simpa using hlt) c
      have HS := Lib.hid hsn
      clear hsn
      by_cases he : (s[k].toNat : Int) = c
      · have hb : ((s[k].toNat : Int) == c) = true := by simpa using he
        have HE := Lib.hid he
        clear he
        go_wp2
        go_ret
        refine ⟨ret_bool ?_, rfl⟩
        have h2 : mem (s.data.toList.take (k + 1)) c = true := by rw [HS.out]; simp [HE.out]
        rw [← List.take_append_drop (k + 1) s.data.toList, mem_append, h2]; rfl
      · have hb : ((s[k].toNat : Int) == c) = false := by simpa using he
        have HE := Lib.hid hb
        go_wp2
        go_round
        case rel => exact ⟨k + 1, by omega, by go_num, by rw [HS.out, HM.out, HE.out]; rfl⟩
        case measure => simp [intOf]; omega
    · go_wp2
      go_ret
      refine ⟨ret_bool ?_, rfl⟩
      rw [← HM.out, List.take_of_length_le (by simp; omega)]

theorem pin_out (c set : Int) (h : c < 32 ∨ 126 < c) : pin c set = true := by unfold pin; rw [if_pos h]
theorem pin_in (c set : Int) (h2 : 32 ≤ c) (h3 : c ≤ 126) : pin c set = (if set = 1 then mem [32, 34, 60, 62, 96] c
  else if set = 6 then mem [32, 34, 35, 60, 62, 63, 94, 123, 125, 96, 47, 58, 59, 61, 64, 91, 92, 93, 124, 36, 37, 38, 43, 44] c
  else if set = 5 then mem [32, 34, 35, 60, 62, 63, 94, 123, 125, 96, 47, 58, 59, 61, 64, 91, 92, 93, 124] c
  else if set = 4 then mem [32, 34, 35, 60, 62, 63, 94, 123, 125, 96] c
  else if set = 3 then mem [32, 34, 35, 60, 62, 39] c
  else if set = 2 then mem [32, 34, 35, 60, 62] c
  else false) := by unfold pin; rw [if_neg (by omega)]

theorem refIn_calls (c set : Int) (w : World) (h0 : 0 ≤ c) (h1 : c < 256) (g0 : 0 ≤ set) (g1 : set < 256) :
    Calls Try.prog 9 #[.int .u8 c, .int .u8 set] w fun e w' => e = .returned (.bool (pin c set)) ∧ w = w' := by
  by_cases hlo : c < 32
  · go_enter Try.func9, Try.ntmps9
    go_wp2
    go_ret
    exact ⟨ret_bool (pin_out c set (.inl hlo)).symm, rfl⟩
  by_cases hhi : 126 < c
  · have hlo' : 32 ≤ c := by omega
    go_enter Try.func9, Try.ntmps9
    go_wp2
    go_ret
    exact ⟨ret_bool (pin_out c set (.inr hhi)).symm, rfl⟩
  have h2 : 32 ≤ c := by omega
  have h3 : c ≤ 126 := by omega
  have HP := Lib.hid (pin_in c set h2 h3)
  clear hlo hhi
  by_cases e1 : set = 1
  · subst e1
    go_enter Try.func9, Try.ntmps9
    go_wp2_with (go_at_call 15; refine (has_calls _ _ _ (by decide)).mono ?_; rintro e w' ⟨rfl, rfl⟩)
    go_ret
    exact ⟨ret_bool (by rw [HP.out]; simp), rfl⟩
  by_cases e2 : set = 2
  · subst e2
    go_enter Try.func9, Try.ntmps9
    go_wp2_with (go_at_call 15; refine (has_calls _ _ _ (by decide)).mono ?_; rintro e w' ⟨rfl, rfl⟩)
    go_ret
    exact ⟨ret_bool (by rw [HP.out]; simp), rfl⟩
  by_cases e3 : set = 3
  · subst e3
    go_enter Try.func9, Try.ntmps9
    go_wp2_with (go_at_call 15; refine (has_calls _ _ _ (by decide)).mono ?_; rintro e w' ⟨rfl, rfl⟩)
    go_ret
    exact ⟨ret_bool (by rw [HP.out]; simp), rfl⟩
  by_cases e4 : set = 4
  · subst e4
    go_enter Try.func9, Try.ntmps9
    go_wp2_with (go_at_call 15; refine (has_calls _ _ _ (by decide)).mono ?_; rintro e w' ⟨rfl, rfl⟩)
    go_ret
    exact ⟨ret_bool (by rw [HP.out]; simp), rfl⟩
  by_cases e5 : set = 5
  · subst e5
    go_enter Try.func9, Try.ntmps9
    go_wp2_with (go_at_call 15; refine (has_calls _ _ _ (by decide)).mono ?_; rintro e w' ⟨rfl, rfl⟩)
    go_ret
    exact ⟨ret_bool (by rw [HP.out]; simp), rfl⟩
  by_cases e6 : set = 6
  · subst e6
    go_enter Try.func9, Try.ntmps9
    go_wp2_with (go_at_call 15; refine (has_calls _ _ _ (by decide)).mono ?_; rintro e w' ⟨rfl, rfl⟩)
    go_ret
    exact ⟨ret_bool (by rw [HP.out]; simp), rfl⟩
  have b1 : (set == 1) = false := by simpa using e1
  have b2 : (set == 2) = false := by simpa using e2
  have b3 : (set == 3) = false := by simpa using e3
  have b4 : (set == 4) = false := by simpa using e4
  have b5 : (set == 5) = false := by simpa using e5
  have b6 : (set == 6) = false := by simpa using e6
  have HQ : Hid (pin c set = false) := by unfold Hid; rw [HP.out, if_neg e1, if_neg e6, if_neg e5, if_neg e4, if_neg e3, if_neg e2]
  clear e1 e2 e3 e4 e5 e6
  go_enter Try.func9, Try.ntmps9
  go_wp2_with (go_at_call 15; refine (has_calls _ _ _ (by decide)).mono ?_; rintro e w' ⟨rfl, rfl⟩)
  go_ret
  exact ⟨ret_bool (by rw [HQ.out]; rfl), rfl⟩

theorem in_calls (c set : Int) (w : World) (h0 : 0 ≤ c) (h1 : c < 256) (g0 : 0 ≤ set) (g1 : set < 256) :
    Calls Try.prog 8 #[.int .u8 c, .int .u8 set] w fun e w' => e = .returned (.bool (pin c set)) ∧ w = w' := by
  by_cases hlo : c < 32
  · go_enter Try.func8, Try.ntmps8
    go_wp2
    go_ret
    exact ⟨ret_bool (pin_out c set (.inl hlo)).symm, rfl⟩
  by_cases hhi : 126 < c
  · have hlo' : 32 ≤ c := by omega
    go_enter Try.func8, Try.ntmps8
    go_wp2
    go_ret
    exact ⟨ret_bool (pin_out c set (.inr hhi)).symm, rfl⟩
  have h2 : 32 ≤ c := by omega
  have h3 : c ≤ 126 := by omega
  have HP := Lib.hid (pin_in c set h2 h3)
  have HX : Hid (∀ l, decide (0 ≤ ixb l c) = mem l c) := fun l => ixb_dec l c h0 h1
  have HA : Hid (∀ a b, mem (a ++ b) c = (mem a c || mem b c)) := fun a b => mem_append a b c
  clear hlo hhi
  by_cases e1 : set = 1
  · subst e1
    go_enter Try.func8, Try.ntmps8
    go_wp2_with (go_at_call 14; refine (indexByte_calls _ _ _).mono ?_; rintro e w' ⟨rfl, rfl⟩)
    go_ret
    exact ⟨ret_bool (by rw [HX.out, HP.out]; simp), rfl⟩
  by_cases e2 : set = 2
  · subst e2
    go_enter Try.func8, Try.ntmps8
    go_wp2_with (go_at_call 14; refine (indexByte_calls _ _ _).mono ?_; rintro e w' ⟨rfl, rfl⟩)
    go_ret
    exact ⟨ret_bool (by rw [HX.out, HP.out]; simp), rfl⟩
  by_cases e4 : set = 4
  · subst e4
    go_enter Try.func8, Try.ntmps8
    go_wp2_with (go_at_call 14; refine (indexByte_calls _ _ _).mono ?_; rintro e w' ⟨rfl, rfl⟩)
    go_ret
    exact ⟨ret_bool (by rw [HX.out, HP.out]; simp), rfl⟩
  by_cases e3 : set = 3
  · subst e3
    by_cases q : c = 39
    · subst q
      go_enter Try.func8, Try.ntmps8
      go_wp2_with (go_at_call 14; refine (indexByte_calls _ _ _).mono ?_; rintro e w' ⟨rfl, rfl⟩)
      go_ret
      exact ⟨ret_bool (by rw [HP.out]; rfl), rfl⟩
    · have hq : (c == 39) = false := by simpa using q
      have HE : Hid (pin c 3 = mem [32, 34, 35, 60, 62] c) := by
        unfold Hid
        have hm : mem [39] c = false := by simp [mem]; omega
        rw [HP.out, if_neg (by decide), if_neg (by decide), if_neg (by decide), if_neg (by decide), if_pos rfl, show ([32, 34, 35, 60, 62, 39] : List UInt8) = [32, 34, 35, 60, 62] ++ [39] from rfl, HA.out, hm, Bool.or_false]
      go_enter Try.func8, Try.ntmps8
      go_wp2_with (go_at_call 14; refine (indexByte_calls _ _ _).mono ?_; rintro e w' ⟨rfl, rfl⟩)
      go_ret
      exact ⟨ret_bool (by rw [HX.out, HE.out]), rfl⟩
  by_cases e5 : set = 5
  · subst e5
    have HE : Hid (pin c 5 = (mem [32, 34, 35, 60, 62, 63, 94, 123, 125, 96] c || mem [47, 58, 59, 61, 64, 91, 92, 93, 124] c)) := by unfold Hid; rw [HP.out, ← HA.out]; simp
    by_cases x5 : 0 ≤ ixb [47, 58, 59, 61, 64, 91, 92, 93, 124] c
    · have HB : Hid (mem [47, 58, 59, 61, 64, 91, 92, 93, 124] c = true) := (ixb_mem _ c h0 h1).1 x5
      go_enter Try.func8, Try.ntmps8
      go_wp2_with (go_at_call 14; refine (indexByte_calls _ _ _).mono ?_; rintro e w' ⟨rfl, rfl⟩)
      go_ret
      exact ⟨ret_bool (by rw [HE.out, HB.out, Bool.or_true]), rfl⟩
    · have HB : Hid (mem [47, 58, 59, 61, 64, 91, 92, 93, 124] c = false) := by unfold Hid; rw [← ixb_dec _ c h0 h1]; simpa using x5
      go_enter Try.func8, Try.ntmps8
      go_wp2_with (go_at_call 14; refine (indexByte_calls _ _ _).mono ?_; rintro e w' ⟨rfl, rfl⟩)
      go_ret
      exact ⟨ret_bool (by rw [HX.out, HE.out, HB.out, Bool.or_false]), rfl⟩
  by_cases e6 : set = 6
  · subst e6
    have HE : Hid (pin c 6 = (mem [32, 34, 35, 60, 62, 63, 94, 123, 125, 96] c || (mem [47, 58, 59, 61, 64, 91, 92, 93, 124] c || mem [36, 37, 38, 43, 44] c))) := by unfold Hid; rw [HP.out, ← HA.out, ← HA.out]; simp
    by_cases x6 : 0 ≤ ixb [36, 37, 38, 43, 44] c
    · have HB : Hid (mem [36, 37, 38, 43, 44] c = true) := (ixb_mem _ c h0 h1).1 x6
      go_enter Try.func8, Try.ntmps8
      go_wp2_with (go_at_call 14; refine (indexByte_calls _ _ _).mono ?_; rintro e w' ⟨rfl, rfl⟩)
      go_ret
      exact ⟨ret_bool (by rw [HE.out, HB.out, Bool.or_true, Bool.or_true]), rfl⟩
    have HC : Hid (mem [36, 37, 38, 43, 44] c = false) := by unfold Hid; rw [← ixb_dec _ c h0 h1]; simpa using x6
    by_cases x5 : 0 ≤ ixb [47, 58, 59, 61, 64, 91, 92, 93, 124] c
    · have HB : Hid (mem [47, 58, 59, 61, 64, 91, 92, 93, 124] c = true) := (ixb_mem _ c h0 h1).1 x5
      go_enter Try.func8, Try.ntmps8
      go_wp2_with (go_at_call 14; refine (indexByte_calls _ _ _).mono ?_; rintro e w' ⟨rfl, rfl⟩)
      go_ret
      exact ⟨ret_bool (by rw [HE.out, HB.out, Bool.true_or, Bool.or_true]), rfl⟩
    · have HB : Hid (mem [47, 58, 59, 61, 64, 91, 92, 93, 124] c = false) := by unfold Hid; rw [← ixb_dec _ c h0 h1]; simpa using x5
      go_enter Try.func8, Try.ntmps8
      go_wp2_with (go_at_call 14; refine (indexByte_calls _ _ _).mono ?_; rintro e w' ⟨rfl, rfl⟩)
      go_ret
      exact ⟨ret_bool (by rw [HX.out, HE.out, HB.out, HC.out, Bool.or_false, Bool.or_false]), rfl⟩
  have b1 : (set == 1) = false := by simpa using e1
  have b2 : (set == 2) = false := by simpa using e2
  have b3 : (set == 3) = false := by simpa using e3
  have b4 : (set == 4) = false := by simpa using e4
  have b5 : (set == 5) = false := by simpa using e5
  have b6 : (set == 6) = false := by simpa using e6
  have HQ : Hid (pin c set = false) := by unfold Hid; rw [HP.out, if_neg e1, if_neg e6, if_neg e5, if_neg e4, if_neg e3, if_neg e2]
  clear e1 e2 e3 e4 e5 e6
  go_enter Try.func8, Try.ntmps8
  go_wp2
  go_ret
  exact ⟨ret_bool HQ.out.symm, rfl⟩

end Go.Proofs.Ytgppagdnjhpojaa
