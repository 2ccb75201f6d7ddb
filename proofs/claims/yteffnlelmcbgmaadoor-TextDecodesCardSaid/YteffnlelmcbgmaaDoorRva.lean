/-
  Contracts of lacunaref01.Valid and of Normal, Space, Alpha, Digit. The condition: the bytes take at most 2 to the 40th bytes.
-/
import Derived.Test.YteffnlelmcbgmaaDoorRfg
import Derived.Test.YteffnlelmcbgmaaDoorVal
set_option linter.unusedVariables false
namespace Go.Proofs.YteffnlelmcbgmaaDoor
open Go.RowKit Go.Shelf

theorem valid_pc (l : List UInt8) (h : l ≠ []) : Lib.validD l = if (pc l).2 then Lib.validD (l.drop (pc l).1) else false := by
  rw [Lib.validD_step l h]
  cases hp : (pc l).2 with
  | true =>
    have hN := pc_N l h
    have hp' := hp
    rw [hN] at hp'
    obtain ⟨g1, g2, _⟩ := pcN_yes _ _ _ _ _ (l.getD 0 0).toNat_lt (l.getD 1 0).toNat_lt (l.getD 2 0).toNat_lt (l.getD 3 0).toNat_lt hp'
    rw [← hN] at g2
    rw [← Lib.decodeL_N] at g1 g2
    rw [if_neg (fun e => g1 (Prod.ext e.1 e.2)), g2, if_pos rfl]
  | false =>
    rw [(pc_no l h hp).2, if_pos ⟨rfl, rfl⟩, if_neg (by simp)]

set_option maxRecDepth 100000 in
set_option maxHeartbeats 2000000 in
theorem validR_calls (s : ByteArray) (hs : s.size ≤ 16777216) (w : World) :
    Calls Tryd.prog 33 #[.string s] w fun e w' => e = .returned (.bool (Lib.validD s.data.toList)) ∧ Below w.heap.size w w' := by
  go_enter Tryd.func33, Tryd.ntmps33
  go_wp2
  go_loopw [3] (fun i wr => ∃ at_ : Nat, i = .int .i64 at_ ∧ at_ ≤ s.size ∧ Below w.heap.size w wr ∧ Hid (Lib.validD (s.data.toList.drop at_) = Lib.validD s.data.toList)) (fun i _ => s.size - (intOf i).toNat)
  case atStart => exact ⟨0, rfl, Nat.zero_le _, Below.refl _ _, by simp [Hid]⟩
  case round =>
    obtain ⟨at_, rfl, hat, hb, HG⟩ := hrel
    have hsz := hb.size
    by_cases hlt : at_ < s.size
    · have hne : s.data.toList.drop at_ ≠ [] := by intro e; have := congrArg List.length e; simp at this; omega
      have hr := pc_range _ hne
      have hrn := rn_range (s.data.toList.drop at_)
      have HV := Lib.hid (valid_pc _ hne)
      have hle : at_ + (pc (s.data.toList.drop at_)).1 ≤ s.size := by have := hr.2.1; simp at this; omega
      have hr1 := hr.1
      have HPC : Hid (∀ w, Calls Tryd.prog 42 #[.string s, .int .i64 at_] w fun e w' =>
          e = .returned (.tuple #[.int .i64 (pc (s.data.toList.drop at_)).1, .int .i32 (rn (s.data.toList.drop at_)), .bool (pc (s.data.toList.drop at_)).2]) ∧ Below w.heap.size w w') := fun w => pieceR_calls s at_ hlt (by omega) w
      have HD : Hid ((s.data.toList.drop at_).drop (pc (s.data.toList.drop at_)).1 = s.data.toList.drop (at_ + (pc (s.data.toList.drop at_)).1)) := by unfold Hid; rw [List.drop_drop]
      clear hne hr
      generalize rn (s.data.toList.drop at_) = r at *
      generalize (pc (s.data.toList.drop at_)).1 = q at *
      generalize (pc (s.data.toList.drop at_)).2 = ok at *
      go_wp2_with fail
      refine (HPC.out _).mono ?_
      rintro e w1 ⟨rfl, hb1⟩
      have hb1' := hb.trans (hb1.mono hsz)
      clear hb hb1 HPC
      cases ok with
      | true =>
        go_wp2
        refine ⟨⟨at_ + q, by go_num, hle, hb1', ?_⟩, by simp [intOf]; omega⟩
        unfold Hid
        rw [← HD.out, ← HG.out, HV.out]; simp
      | false =>
        go_wp2
        go_ret
        exact ⟨ret_bool (by rw [← HG.out, HV.out]; rfl), hb1'⟩
    · obtain rfl : at_ = s.size := by omega
      go_wp2
      go_ret
      refine ⟨ret_bool ?_, hb⟩
      rw [← HG.out, List.drop_of_length_le (by simp)]; rfl
end Go.Proofs.YteffnlelmcbgmaaDoor
