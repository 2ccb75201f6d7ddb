/-
  Contracts of lacunaref01.long and bounds. The condition: 2, 3 or 4 bytes are asked for; some byte is there.
-/
import Derived.Test.YteffnlelmcbgmaaDoorRfm
import Derived.Test.YteffnlelmcbgmaaDoorTxb
import Derived.Deep.RegionWith
set_option linter.unusedVariables false
namespace Go.Proofs.YteffnlelmcbgmaaDoor
open Go.RowKit Go.Shelf

theorem long_calls (c : Nat) (hc : c < 256) (w : World) :
    Calls Tryd.prog 58 #[.int .u8 c] w fun e w' => e = .returned (.int .i64 (lg c : Nat)) ∧ w' = w := by
  have hcz : (0 : Int) ≤ (c : Int) := by omega
  have hcz' : (c : Int) < 256 := by omega
  have key : ∀ m : Nat, Hid (lg c = m) → Ending.returned (.int .i64 (m : Int)) = .returned (.int .i64 (lg c : Nat)) := fun m h => by rw [h.out]
  by_cases c1 : (c : Int) < 128
  · have h : Hid (lg c = 1) := by unfold Hid lg; rw [if_pos (by omega)]
    go_enter Tryd.func58, Tryd.ntmps58
    go_wp2
    go_ret
    exact ⟨key 1 h, rfl⟩
  by_cases c2 : (c : Int) < 194
  · have h : Hid (lg c = 0) := by unfold Hid lg; rw [if_neg (by omega), if_neg (by omega), if_neg (by omega), if_neg (by omega)]
    have d1 : ¬ ((194 : Int) ≤ c) := by omega
    have d2 : ¬ ((224 : Int) ≤ c) := by omega
    have d3 : ¬ ((240 : Int) ≤ c) := by omega
    go_enter Tryd.func58, Tryd.ntmps58
    go_wp2
    go_ret
    exact ⟨key 0 h, rfl⟩
  have d1 : (194 : Int) ≤ c := by omega
  by_cases c3 : (c : Int) < 224
  · have h : Hid (lg c = 2) := by unfold Hid lg; rw [if_neg (by omega), if_pos (by omega)]
    go_enter Tryd.func58, Tryd.ntmps58
    go_wp2
    go_ret
    exact ⟨key 2 h, rfl⟩
  have d2 : (224 : Int) ≤ c := by omega
  by_cases c4 : (c : Int) < 240
  · have h : Hid (lg c = 3) := by unfold Hid lg; rw [if_neg (by omega), if_neg (by omega), if_pos (by omega)]
    go_enter Tryd.func58, Tryd.ntmps58
    go_wp2
    go_ret
    exact ⟨key 3 h, rfl⟩
  have d3 : (240 : Int) ≤ c := by omega
  by_cases c5 : (c : Int) < 245
  · have h : Hid (lg c = 4) := by unfold Hid lg; rw [if_neg (by omega), if_neg (by omega), if_neg (by omega), if_pos (by omega)]
    go_enter Tryd.func58, Tryd.ntmps58
    go_wp2
    go_ret
    exact ⟨key 4 h, rfl⟩
  · have h : Hid (lg c = 0) := by unfold Hid lg; rw [if_neg (by omega), if_neg (by omega), if_neg (by omega), if_neg (by omega)]
    go_enter Tryd.func58, Tryd.ntmps58
    go_wp2
    go_ret
    exact ⟨key 0 h, rfl⟩

theorem getD_get (s : ByteArray) (k : Nat) (hk : k < s.size) : s.data.toList.getD k 0 = s[k] := by
  rw [List.getD_eq_getElem?_getD, List.getElem?_eq_getElem (by simpa using hk)]; rfl

set_option maxRecDepth 100000 in
set_option maxHeartbeats 2000000 in
theorem bounds2_calls (s : ByteArray) (h0 : 0 < s.size) (w : World) :
    Calls Tryd.prog 59 #[.string s, .int .i64 2] w fun e w' => e = .returned (.tuple #[.int .i64 (bnd s.data.toList 2 2).1, .int .i64 (bnd s.data.toList 2 2).2]) ∧ Below w.heap.size w w' := by
  have hB := fun k hk => Lib.hid (bnd_le s.data.toList 2 k hk)
  have hidx : ∀ w, (Instr.index 9 (.string s) (.int .i64 0)).run Tryd.prog w = .ok (.int .u8 ((s.data.toList.getD 0 0).toNat : Nat)) w := by
    intro w
    rw [run_index_string w _ _ _ _ Tryd.underlying9, dif_pos ⟨by omega, by omega⟩, getD_get s 0 h0]
    rfl
  have hc0 := (s.data.toList.getD 0 0).toNat_lt
  go_enter Tryd.func59, Tryd.ntmps59
  go_wp2
  go_loopw [6, 7, 8] (fun v6 v7 v8 wr => ∃ k : Nat, k ≤ 2 ∧ v8 = .int .i64 k ∧ v6 = .int .i64 (bnd s.data.toList 2 k).1 ∧ v7 = .int .i64 (bnd s.data.toList 2 k).2 ∧ Below w.heap.size w wr) (fun _ _ v8 _ => 2 - (intOf v8).toNat)
  case atStart => exact ⟨0, by omega, rfl, rfl, rfl, Below.refl _ _⟩
  case round =>
    obtain ⟨k, hk, rfl, rfl, rfl, hb⟩ := hrel
    by_cases hlt : k < 2
    · have hlt' : (k : Int) < 2 := by omega
      have hbk := (hB k (by omega)).out
      have HS : Hid (bnd s.data.toList 2 (k + 1) = ((bnd s.data.toList 2 k).1 * 64 + (bx s.data.toList 2 k).1, (bnd s.data.toList 2 k).2 * 64 + (bx s.data.toList 2 k).2)) := rfl
      generalize hlo : (bnd s.data.toList 2 k).1 = lo at *
      generalize hhi : (bnd s.data.toList 2 k).2 = hi at *
      have HLO := Lib.hid hlo
      have HHI := Lib.hid hhi
      clear hlo hhi
      by_cases hk0 : k = 0
      · subst hk0
        have HX : Hid (bx s.data.toList 2 0 = (((s.data.toList.getD 0 0).toNat : Int) - 192, ((s.data.toList.getD 0 0).toNat : Int) - 192)) := rfl
        generalize (s.data.toList.getD 0 0).toNat = c at *
        go_wp2_with fail
        go_region
        go_wp2
        refine ⟨⟨0 + 1, by omega, rfl, ?_, ?_, (hb.alloc hb.size _).drew⟩, by simp [intOf]⟩
        · rw [HS.out, HX.out]; congr 1; dsimp only; omega
        · rw [HS.out, HX.out]; congr 1; dsimp only; omega
      · have hk0' : ((k : Int) == 0) = false := beq_eq_false_iff_ne.2 (by omega)
        clear hidx hc0
        by_cases hks : k < s.size
        · have HX : Hid (bx s.data.toList 2 k = ((s[k].toNat : Int) - 128, (s[k].toNat : Int) - 128)) := by
            unfold Hid bx; rw [if_neg hk0, if_pos (by simpa using hks), getD_get s k hks]
          have hc1 := s[k].toNat_lt
          clear hk0
          go_wp2
          refine ⟨⟨k + 1, by omega, by go_num, ?_, ?_, hb⟩, by simp [intOf]; omega⟩
          · rw [HS.out, HX.out]
          · rw [HS.out, HX.out]
        · have HX : Hid (bx s.data.toList 2 k = (0, 63)) := by
            unfold Hid bx; rw [if_neg hk0, if_neg (by simpa using hks)]
          have hks' : ¬ ((k : Int) < s.size) := by omega
          clear hk0
          go_wp2
          refine ⟨⟨k + 1, by omega, by go_num, ?_, ?_, hb⟩, by simp [intOf]; omega⟩
          · rw [HS.out, HX.out]; congr 1; dsimp only; omega
          · rw [HS.out, HX.out]
    · obtain rfl : k = 2 := by omega
      go_wp2
      go_ret2
      exact ⟨rfl, hb⟩

set_option maxRecDepth 100000 in
set_option maxHeartbeats 2000000 in
theorem bounds3_calls (s : ByteArray) (h0 : 0 < s.size) (w : World) :
    Calls Tryd.prog 59 #[.string s, .int .i64 3] w fun e w' => e = .returned (.tuple #[.int .i64 (bnd s.data.toList 3 3).1, .int .i64 (bnd s.data.toList 3 3).2]) ∧ Below w.heap.size w w' := by
  have hB := fun k hk => Lib.hid (bnd_le s.data.toList 3 k hk)
  have hidx : ∀ w, (Instr.index 9 (.string s) (.int .i64 0)).run Tryd.prog w = .ok (.int .u8 ((s.data.toList.getD 0 0).toNat : Nat)) w := by
    intro w
    rw [run_index_string w _ _ _ _ Tryd.underlying9, dif_pos ⟨by omega, by omega⟩, getD_get s 0 h0]
    rfl
  have hc0 := (s.data.toList.getD 0 0).toNat_lt
  go_enter Tryd.func59, Tryd.ntmps59
  go_wp2
  go_loopw [6, 7, 8] (fun v6 v7 v8 wr => ∃ k : Nat, k ≤ 3 ∧ v8 = .int .i64 k ∧ v6 = .int .i64 (bnd s.data.toList 3 k).1 ∧ v7 = .int .i64 (bnd s.data.toList 3 k).2 ∧ Below w.heap.size w wr) (fun _ _ v8 _ => 3 - (intOf v8).toNat)
  case atStart => exact ⟨0, by omega, rfl, rfl, rfl, Below.refl _ _⟩
  case round =>
    obtain ⟨k, hk, rfl, rfl, rfl, hb⟩ := hrel
    by_cases hlt : k < 3
    · have hlt' : (k : Int) < 3 := by omega
      have hbk := (hB k (by omega)).out
      have HS : Hid (bnd s.data.toList 3 (k + 1) = ((bnd s.data.toList 3 k).1 * 64 + (bx s.data.toList 3 k).1, (bnd s.data.toList 3 k).2 * 64 + (bx s.data.toList 3 k).2)) := rfl
      generalize hlo : (bnd s.data.toList 3 k).1 = lo at *
      generalize hhi : (bnd s.data.toList 3 k).2 = hi at *
      have HLO := Lib.hid hlo
      have HHI := Lib.hid hhi
      clear hlo hhi
      by_cases hk0 : k = 0
      · subst hk0
        have HX : Hid (bx s.data.toList 3 0 = (((s.data.toList.getD 0 0).toNat : Int) - 224, ((s.data.toList.getD 0 0).toNat : Int) - 224)) := rfl
        generalize (s.data.toList.getD 0 0).toNat = c at *
        go_wp2_with fail
        go_region
        go_wp2
        refine ⟨⟨0 + 1, by omega, rfl, ?_, ?_, (hb.alloc hb.size _).drew⟩, by simp [intOf]⟩
        · rw [HS.out, HX.out]; congr 1; dsimp only; omega
        · rw [HS.out, HX.out]; congr 1; dsimp only; omega
      · have hk0' : ((k : Int) == 0) = false := beq_eq_false_iff_ne.2 (by omega)
        clear hidx hc0
        by_cases hks : k < s.size
        · have HX : Hid (bx s.data.toList 3 k = ((s[k].toNat : Int) - 128, (s[k].toNat : Int) - 128)) := by
            unfold Hid bx; rw [if_neg hk0, if_pos (by simpa using hks), getD_get s k hks]
          have hc1 := s[k].toNat_lt
          clear hk0
          go_wp2
          refine ⟨⟨k + 1, by omega, by go_num, ?_, ?_, hb⟩, by simp [intOf]; omega⟩
          · rw [HS.out, HX.out]
          · rw [HS.out, HX.out]
        · have HX : Hid (bx s.data.toList 3 k = (0, 63)) := by
            unfold Hid bx; rw [if_neg hk0, if_neg (by simpa using hks)]
          have hks' : ¬ ((k : Int) < s.size) := by omega
          clear hk0
          go_wp2
          refine ⟨⟨k + 1, by omega, by go_num, ?_, ?_, hb⟩, by simp [intOf]; omega⟩
          · rw [HS.out, HX.out]; congr 1; dsimp only; omega
          · rw [HS.out, HX.out]
    · obtain rfl : k = 3 := by omega
      go_wp2
      go_ret2
      exact ⟨rfl, hb⟩

set_option maxRecDepth 100000 in
set_option maxHeartbeats 2000000 in
theorem bounds4_calls (s : ByteArray) (h0 : 0 < s.size) (w : World) :
    Calls Tryd.prog 59 #[.string s, .int .i64 4] w fun e w' => e = .returned (.tuple #[.int .i64 (bnd s.data.toList 4 4).1, .int .i64 (bnd s.data.toList 4 4).2]) ∧ Below w.heap.size w w' := by
  have hB := fun k hk => Lib.hid (bnd_le s.data.toList 4 k hk)
  have hidx : ∀ w, (Instr.index 9 (.string s) (.int .i64 0)).run Tryd.prog w = .ok (.int .u8 ((s.data.toList.getD 0 0).toNat : Nat)) w := by
    intro w
    rw [run_index_string w _ _ _ _ Tryd.underlying9, dif_pos ⟨by omega, by omega⟩, getD_get s 0 h0]
    rfl
  have hc0 := (s.data.toList.getD 0 0).toNat_lt
  go_enter Tryd.func59, Tryd.ntmps59
  go_wp2
  go_loopw [6, 7, 8] (fun v6 v7 v8 wr => ∃ k : Nat, k ≤ 4 ∧ v8 = .int .i64 k ∧ v6 = .int .i64 (bnd s.data.toList 4 k).1 ∧ v7 = .int .i64 (bnd s.data.toList 4 k).2 ∧ Below w.heap.size w wr) (fun _ _ v8 _ => 4 - (intOf v8).toNat)
  case atStart => exact ⟨0, by omega, rfl, rfl, rfl, Below.refl _ _⟩
  case round =>
    obtain ⟨k, hk, rfl, rfl, rfl, hb⟩ := hrel
    by_cases hlt : k < 4
    · have hlt' : (k : Int) < 4 := by omega
      have hbk := (hB k (by omega)).out
      have HS : Hid (bnd s.data.toList 4 (k + 1) = ((bnd s.data.toList 4 k).1 * 64 + (bx s.data.toList 4 k).1, (bnd s.data.toList 4 k).2 * 64 + (bx s.data.toList 4 k).2)) := rfl
      generalize hlo : (bnd s.data.toList 4 k).1 = lo at *
      generalize hhi : (bnd s.data.toList 4 k).2 = hi at *
      have HLO := Lib.hid hlo
      have HHI := Lib.hid hhi
      clear hlo hhi
      by_cases hk0 : k = 0
      · subst hk0
        have HX : Hid (bx s.data.toList 4 0 = (((s.data.toList.getD 0 0).toNat : Int) - 240, ((s.data.toList.getD 0 0).toNat : Int) - 240)) := rfl
        generalize (s.data.toList.getD 0 0).toNat = c at *
        go_wp2_with fail
        go_region
        go_wp2
        refine ⟨⟨0 + 1, by omega, rfl, ?_, ?_, (hb.alloc hb.size _).drew⟩, by simp [intOf]⟩
        · rw [HS.out, HX.out]; congr 1; dsimp only; omega
        · rw [HS.out, HX.out]; congr 1; dsimp only; omega
      · have hk0' : ((k : Int) == 0) = false := beq_eq_false_iff_ne.2 (by omega)
        clear hidx hc0
        by_cases hks : k < s.size
        · have HX : Hid (bx s.data.toList 4 k = ((s[k].toNat : Int) - 128, (s[k].toNat : Int) - 128)) := by
            unfold Hid bx; rw [if_neg hk0, if_pos (by simpa using hks), getD_get s k hks]
          have hc1 := s[k].toNat_lt
          clear hk0
          go_wp2
          refine ⟨⟨k + 1, by omega, by go_num, ?_, ?_, hb⟩, by simp [intOf]; omega⟩
          · rw [HS.out, HX.out]
          · rw [HS.out, HX.out]
        · have HX : Hid (bx s.data.toList 4 k = (0, 63)) := by
            unfold Hid bx; rw [if_neg hk0, if_neg (by simpa using hks)]
          have hks' : ¬ ((k : Int) < s.size) := by omega
          clear hk0
          go_wp2
          refine ⟨⟨k + 1, by omega, by go_num, ?_, ?_, hb⟩, by simp [intOf]; omega⟩
          · rw [HS.out, HX.out]; congr 1; dsimp only; omega
          · rw [HS.out, HX.out]
    · obtain rfl : k = 4 := by omega
      go_wp2
      go_ret2
      exact ⟨rfl, hb⟩

end Go.Proofs.YteffnlelmcbgmaaDoor
