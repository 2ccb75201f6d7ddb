/-
  Plain facts: what the document's answer for layer 1 reckons: how many bytes a code point has, between which code points a beginning lies, whether bytes begin a code point's. No program in sight, no condition.
-/
/-
  Contracts of lacunaref01.long and bounds. The condition: 2, 3 or 4 bytes are asked for; some byte is there.
-/
/-
  The contract of lacunaref01.begins. The condition: some byte is there.
-/
/-
  Plain laws: the document's pieces are the pieces. No program in sight, no condition.
-/
/-
  Plain laws: the document's piece is the piece. No program in sight, no condition.
-/
/-
  The contract of lacunaref01.Piece: it is the piece. The condition: some byte stands there.
-/
/-
  The contract of lacunaref01.Valid. The condition: the bytes take at most 2 to the 24th bytes.
-/
import Derived.Test.YtdgcdjpjnhlihaaGreatDoorMgTrq
import Derived.Test.YtdgcdjpjnhlihaaGreatDoorMgLib
import Derived.Deep.RegionWith
set_option linter.unusedVariables false
namespace Go.Proofs.YtdgcdjpjnhlihaaGreatDoor
open Go.Lib

/-- How many bytes a code point that begins so would have; 0: none does. -/
def lg (c : Nat) : Nat := if c < 128 then 1 else if 194 ≤ c ∧ c < 224 then 2 else if 224 ≤ c ∧ c < 240 then 3 else if 240 ≤ c ∧ c < 245 then 4 else 0
theorem lg_le (c : Nat) : lg c ≤ 4 := by unfold lg; (repeat' split) <;> omega
/-- What stands for the first byte's mark. -/
def mk0 (n : Nat) : Int := if n = 2 then 192 else if n = 3 then 224 else 240
def bx (b : List UInt8) (n i : Nat) : Int × Int :=
  if i = 0 then (((b.getD 0 0).toNat : Int) - mk0 n, ((b.getD 0 0).toNat : Int) - mk0 n)
  else if i < b.length then (((b.getD i 0).toNat : Int) - 128, ((b.getD i 0).toNat : Int) - 128) else (0, 63)
/-- The least and the greatest code point whose bytes begin so. -/
def bnd (b : List UInt8) (n : Nat) : Nat → Int × Int
  | 0 => (0, 0)
  | i + 1 => ((bnd b n i).1 * 64 + (bx b n i).1, (bnd b n i).2 * 64 + (bx b n i).2)
theorem bx_le (b : List UInt8) (n i : Nat) : -240 ≤ (bx b n i).1 ∧ (bx b n i).1 ≤ 255 ∧ -240 ≤ (bx b n i).2 ∧ (bx b n i).2 ≤ 255 := by
  have h0 := (b.getD 0 0).toNat_lt
  have h1 := (b.getD i 0).toNat_lt
  unfold bx mk0
  (repeat' split) <;> simp only [] <;> omega
theorem bnd_le (b : List UInt8) (n i : Nat) (hi : i ≤ 4) : -8589934592 ≤ (bnd b n i).1 ∧ (bnd b n i).1 ≤ 8589934592 ∧ -8589934592 ≤ (bnd b n i).2 ∧ (bnd b n i).2 ≤ 8589934592 := by
  have h0 := bx_le b n 0
  have h1 := bx_le b n 1
  have h2 := bx_le b n 2
  have h3 := bx_le b n 3
  match i, hi with
  | 0, _ => simp [bnd]
  | 1, _ => simp only [bnd]; omega
  | 2, _ => simp only [bnd]; omega
  | 3, _ => simp only [bnd]; omega
  | 4, _ => simp only [bnd]; omega

/-- Do some code point's bytes begin so? As the document says it. -/
def bgs (b : List UInt8) : Bool :=
  let n := lg (b.getD 0 0).toNat
  if n = 0 ∨ n < b.length then false
  else if ((List.range b.length).drop 1).any (fun i => decide ((b.getD i 0).toNat < 128 ∨ 191 < (b.getD i 0).toNat)) then false
  else if n = 1 then true
  else
    let low := max (bnd b n n).1 (if n = 2 then 128 else if n = 3 then 2048 else 65536)
    let high := min (bnd b n n).2 (if n = 2 then 2047 else if n = 3 then 65535 else 1114111)
    if n = 3 ∧ 55296 ≤ low ∧ high ≤ 57343 then false else decide (low ≤ high)
end Go.Proofs.YtdgcdjpjnhlihaaGreatDoor
set_option linter.unusedVariables false
namespace Go.Proofs.YtdgcdjpjnhlihaaGreatDoor
open Go.RowKit Go.Shelf

theorem long_calls (c : Nat) (hc : c < 256) (w : World) :
    Calls Tryz.prog 85 #[.int .u8 c] w fun e w' => e = .returned (.int .i64 (lg c : Nat)) ∧ w' = w := by
  have hcz : (0 : Int) ≤ (c : Int) := by omega
  have hcz' : (c : Int) < 256 := by omega
  have key : ∀ m : Nat, Hid (lg c = m) → Ending.returned (.int .i64 (m : Int)) = .returned (.int .i64 (lg c : Nat)) := fun m h => by rw [h.out]
  by_cases c1 : (c : Int) < 128
  · have h : Hid (lg c = 1) := by unfold Hid lg; rw [if_pos (by omega)]
    go_enter Tryz.func85, Tryz.ntmps85
    go_wp2
    go_ret
    exact ⟨key 1 h, rfl⟩
  by_cases c2 : (c : Int) < 194
  · have h : Hid (lg c = 0) := by unfold Hid lg; rw [if_neg (by omega), if_neg (by omega), if_neg (by omega), if_neg (by omega)]
    have d1 : ¬ ((194 : Int) ≤ c) := by omega
    have d2 : ¬ ((224 : Int) ≤ c) := by omega
    have d3 : ¬ ((240 : Int) ≤ c) := by omega
    go_enter Tryz.func85, Tryz.ntmps85
    go_wp2
    go_ret
    exact ⟨key 0 h, rfl⟩
  have d1 : (194 : Int) ≤ c := by omega
  by_cases c3 : (c : Int) < 224
  · have h : Hid (lg c = 2) := by unfold Hid lg; rw [if_neg (by omega), if_pos (by omega)]
    go_enter Tryz.func85, Tryz.ntmps85
    go_wp2
    go_ret
    exact ⟨key 2 h, rfl⟩
  have d2 : (224 : Int) ≤ c := by omega
  by_cases c4 : (c : Int) < 240
  · have h : Hid (lg c = 3) := by unfold Hid lg; rw [if_neg (by omega), if_neg (by omega), if_pos (by omega)]
    go_enter Tryz.func85, Tryz.ntmps85
    go_wp2
    go_ret
    exact ⟨key 3 h, rfl⟩
  have d3 : (240 : Int) ≤ c := by omega
  by_cases c5 : (c : Int) < 245
  · have h : Hid (lg c = 4) := by unfold Hid lg; rw [if_neg (by omega), if_neg (by omega), if_neg (by omega), if_pos (by omega)]
    go_enter Tryz.func85, Tryz.ntmps85
    go_wp2
    go_ret
    exact ⟨key 4 h, rfl⟩
  · have h : Hid (lg c = 0) := by unfold Hid lg; rw [if_neg (by omega), if_neg (by omega), if_neg (by omega), if_neg (by omega)]
    go_enter Tryz.func85, Tryz.ntmps85
    go_wp2
    go_ret
    exact ⟨key 0 h, rfl⟩

theorem getD_get (s : ByteArray) (k : Nat) (hk : k < s.size) : s.data.toList.getD k 0 = s[k] := by
  rw [List.getD_eq_getElem?_getD, List.getElem?_eq_getElem (by simpa using hk)]; rfl

set_option maxRecDepth 100000 in
set_option maxHeartbeats 2000000 in
theorem bounds2_calls (s : ByteArray) (h0 : 0 < s.size) (w : World) :
    Calls Tryz.prog 86 #[.string s, .int .i64 2] w fun e w' => e = .returned (.tuple #[.int .i64 (bnd s.data.toList 2 2).1, .int .i64 (bnd s.data.toList 2 2).2]) ∧ Below w.heap.size w w' := by
  have hB := fun k hk => Lib.hid (bnd_le s.data.toList 2 k hk)
  have hidx : ∀ w, (Instr.index 9 (.string s) (.int .i64 0)).run Tryz.prog w = .ok (.int .u8 ((s.data.toList.getD 0 0).toNat : Nat)) w := by
    intro w
    rw [run_index_string w _ _ _ _ Tryz.underlying9, dif_pos ⟨by omega, by omega⟩, getD_get s 0 h0]
    rfl
  have hc0 := (s.data.toList.getD 0 0).toNat_lt
  go_enter Tryz.func86, Tryz.ntmps86
  go_wp2
  go_loopw [6, 7, 8] (fun v6 v7 v8 wr => ∃ k : Nat, k ≤ 2 ∧ v8 = .int .i64 k ∧ v6 = .int .i64 (bnd s.data.toList 2 k).1 ∧ v7 = .int .i64 (bnd s.data.toList 2 k).2 ∧ Below w.heap.size w wr) (fun _ _ v8 _ => 2 - (intOf v8).toNat)
  case atStart => exact ⟨0, by omega, rfl, rfl, rfl, Below.refl _ _⟩
  case round =>
    obtain ⟨k, hk, rfl, rfl, rfl, hb⟩ := hrel
    by_cases hlt : k < 2
    · have hlt' : (k : Int) < 2 := by omega
      have hbk := (hB k (by omega)).out
      have HS : Hid (bnd s.data.toList 2 (k + 1) = ((bnd s.data.toList 2 k).1 * 64 + (bx s.data.toList 2 k).1, (bnd s.data.toList 2 k).2 * 64 + (bx s.data.toList 2 k).2)) := rfl
      generalize hlo : (bnd s.data.toList 2 k).1 = lo at *
      generalize hhi : (bnd s.data.toList 2 k).2 = hi at *
      have HLO := Lib.hid hlo
      have HHI := Lib.hid hhi
      clear hlo hhi
      by_cases hk0 : k = 0
      · subst hk0
        have HX : Hid (bx s.data.toList 2 0 = (((s.data.toList.getD 0 0).toNat : Int) - 192, ((s.data.toList.getD 0 0).toNat : Int) - 192)) := rfl
        generalize (s.data.toList.getD 0 0).toNat = c at *
        go_wp2_with fail
        go_region
        go_wp2
        refine ⟨⟨0 + 1, by omega, rfl, ?_, ?_, (hb.alloc hb.size _).drew⟩, by simp [intOf]⟩
        · rw [HS.out, HX.out]; congr 1; dsimp only; omega
        · rw [HS.out, HX.out]; congr 1; dsimp only; omega
      · have hk0' : ((k : Int) == 0) = false := beq_eq_false_iff_ne.2 (by omega)
        clear hidx hc0
        by_cases hks : k < s.size
        · have HX : Hid (bx s.data.toList 2 k = ((s[k].toNat : Int) - 128, (s[k].toNat : Int) - 128)) := by
            unfold Hid bx; rw [if_neg hk0, if_pos (by simpa using hks), getD_get s k hks]
          have hc1 := s[k].toNat_lt
          clear hk0
          go_wp2
          refine ⟨⟨k + 1, by omega, by go_num, ?_, ?_, hb⟩, by simp [intOf]; omega⟩
          · rw [HS.out, HX.out]
          · rw [HS.out, HX.out]
        · have HX : Hid (bx s.data.toList 2 k = (0, 63)) := by
            unfold Hid bx; rw [if_neg hk0, if_neg (by simpa using hks)]
          have hks' : ¬ ((k : Int) < s.size) := by omega
          clear hk0
          go_wp2
          refine ⟨⟨k + 1, by omega, by go_num, ?_, ?_, hb⟩, by simp [intOf]; omega⟩
          · rw [HS.out, HX.out]; congr 1; dsimp only; omega
          · rw [HS.out, HX.out]
    · obtain rfl : k = 2 := by omega
      go_wp2
      go_ret2
      exact ⟨rfl, hb⟩

set_option maxRecDepth 100000 in
set_option maxHeartbeats 2000000 in
theorem bounds3_calls (s : ByteArray) (h0 : 0 < s.size) (w : World) :
    Calls Tryz.prog 86 #[.string s, .int .i64 3] w fun e w' => e = .returned (.tuple #[.int .i64 (bnd s.data.toList 3 3).1, .int .i64 (bnd s.data.toList 3 3).2]) ∧ Below w.heap.size w w' := by
  have hB := fun k hk => Lib.hid (bnd_le s.data.toList 3 k hk)
  have hidx : ∀ w, (Instr.index 9 (.string s) (.int .i64 0)).run Tryz.prog w = .ok (.int .u8 ((s.data.toList.getD 0 0).toNat : Nat)) w := by
    intro w
    rw [run_index_string w _ _ _ _ Tryz.underlying9, dif_pos ⟨by omega, by omega⟩, getD_get s 0 h0]
    rfl
  have hc0 := (s.data.toList.getD 0 0).toNat_lt
  go_enter Tryz.func86, Tryz.ntmps86
  go_wp2
  go_loopw [6, 7, 8] (fun v6 v7 v8 wr => ∃ k : Nat, k ≤ 3 ∧ v8 = .int .i64 k ∧ v6 = .int .i64 (bnd s.data.toList 3 k).1 ∧ v7 = .int .i64 (bnd s.data.toList 3 k).2 ∧ Below w.heap.size w wr) (fun _ _ v8 _ => 3 - (intOf v8).toNat)
  case atStart => exact ⟨0, by omega, rfl, rfl, rfl, Below.refl _ _⟩
  case round =>
    obtain ⟨k, hk, rfl, rfl, rfl, hb⟩ := hrel
    by_cases hlt : k < 3
    · have hlt' : (k : Int) < 3 := by omega
      have hbk := (hB k (by omega)).out
      have HS : Hid (bnd s.data.toList 3 (k + 1) = ((bnd s.data.toList 3 k).1 * 64 + (bx s.data.toList 3 k).1, (bnd s.data.toList 3 k).2 * 64 + (bx s.data.toList 3 k).2)) := rfl
      generalize hlo : (bnd s.data.toList 3 k).1 = lo at *
      generalize hhi : (bnd s.data.toList 3 k).2 = hi at *
      have HLO := Lib.hid hlo
      have HHI := Lib.hid hhi
      clear hlo hhi
      by_cases hk0 : k = 0
      · subst hk0
        have HX : Hid (bx s.data.toList 3 0 = (((s.data.toList.getD 0 0).toNat : Int) - 224, ((s.data.toList.getD 0 0).toNat : Int) - 224)) := rfl
        generalize (s.data.toList.getD 0 0).toNat = c at *
        go_wp2_with fail
        go_region
        go_wp2
        refine ⟨⟨0 + 1, by omega, rfl, ?_, ?_, (hb.alloc hb.size _).drew⟩, by simp [intOf]⟩
        · rw [HS.out, HX.out]; congr 1; dsimp only; omega
        · rw [HS.out, HX.out]; congr 1; dsimp only; omega
      · have hk0' : ((k : Int) == 0) = false := beq_eq_false_iff_ne.2 (by omega)
        clear hidx hc0
        by_cases hks : k < s.size
        · have HX : Hid (bx s.data.toList 3 k = ((s[k].toNat : Int) - 128, (s[k].toNat : Int) - 128)) := by
            unfold Hid bx; rw [if_neg hk0, if_pos (by simpa using hks), getD_get s k hks]
          have hc1 := s[k].toNat_lt
          clear hk0
          go_wp2
          refine ⟨⟨k + 1, by omega, by go_num, ?_, ?_, hb⟩, by simp [intOf]; omega⟩
          · rw [HS.out, HX.out]
          · rw [HS.out, HX.out]
        · have HX : Hid (bx s.data.toList 3 k = (0, 63)) := by
            unfold Hid bx; rw [if_neg hk0, if_neg (by simpa using hks)]
          have hks' : ¬ ((k : Int) < s.size) := by omega
          clear hk0
          go_wp2
          refine ⟨⟨k + 1, by omega, by go_num, ?_, ?_, hb⟩, by simp [intOf]; omega⟩
          · rw [HS.out, HX.out]; congr 1; dsimp only; omega
          · rw [HS.out, HX.out]
    · obtain rfl : k = 3 := by omega
      go_wp2
      go_ret2
      exact ⟨rfl, hb⟩

set_option maxRecDepth 100000 in
set_option maxHeartbeats 2000000 in
theorem bounds4_calls (s : ByteArray) (h0 : 0 < s.size) (w : World) :
    Calls Tryz.prog 86 #[.string s, .int .i64 4] w fun e w' => e = .returned (.tuple #[.int .i64 (bnd s.data.toList 4 4).1, .int .i64 (bnd s.data.toList 4 4).2]) ∧ Below w.heap.size w w' := by
  have hB := fun k hk => Lib.hid (bnd_le s.data.toList 4 k hk)
  have hidx : ∀ w, (Instr.index 9 (.string s) (.int .i64 0)).run Tryz.prog w = .ok (.int .u8 ((s.data.toList.getD 0 0).toNat : Nat)) w := by
    intro w
    rw [run_index_string w _ _ _ _ Tryz.underlying9, dif_pos ⟨by omega, by omega⟩, getD_get s 0 h0]
    rfl
  have hc0 := (s.data.toList.getD 0 0).toNat_lt
  go_enter Tryz.func86, Tryz.ntmps86
  go_wp2
  go_loopw [6, 7, 8] (fun v6 v7 v8 wr => ∃ k : Nat, k ≤ 4 ∧ v8 = .int .i64 k ∧ v6 = .int .i64 (bnd s.data.toList 4 k).1 ∧ v7 = .int .i64 (bnd s.data.toList 4 k).2 ∧ Below w.heap.size w wr) (fun _ _ v8 _ => 4 - (intOf v8).toNat)
  case atStart => exact ⟨0, by omega, rfl, rfl, rfl, Below.refl _ _⟩
  case round =>
    obtain ⟨k, hk, rfl, rfl, rfl, hb⟩ := hrel
    by_cases hlt : k < 4
    · have hlt' : (k : Int) < 4 := by omega
      have hbk := (hB k (by omega)).out
      have HS : Hid (bnd s.data.toList 4 (k + 1) = ((bnd s.data.toList 4 k).1 * 64 + (bx s.data.toList 4 k).1, (bnd s.data.toList 4 k).2 * 64 + (bx s.data.toList 4 k).2)) := rfl
      generalize hlo : (bnd s.data.toList 4 k).1 = lo at *
      generalize hhi : (bnd s.data.toList 4 k).2 = hi at *
      have HLO := Lib.hid hlo
      have HHI := Lib.hid hhi
      clear hlo hhi
      by_cases hk0 : k = 0
      · subst hk0
        have HX : Hid (bx s.data.toList 4 0 = (((s.data.toList.getD 0 0).toNat : Int) - 240, ((s.data.toList.getD 0 0).toNat : Int) - 240)) := rfl
        generalize (s.data.toList.getD 0 0).toNat = c at *
        go_wp2_with fail
        go_region
        go_wp2
        refine ⟨⟨0 + 1, by omega, rfl, ?_, ?_, (hb.alloc hb.size _).drew⟩, by simp [intOf]⟩
        · rw [HS.out, HX.out]; congr 1; dsimp only; omega
        · rw [HS.out, HX.out]; congr 1; dsimp only; omega
      · have hk0' : ((k : Int) == 0) = false := beq_eq_false_iff_ne.2 (by omega)
        clear hidx hc0
        by_cases hks : k < s.size
        · have HX : Hid (bx s.data.toList 4 k = ((s[k].toNat : Int) - 128, (s[k].toNat : Int) - 128)) := by
            unfold Hid bx; rw [if_neg hk0, if_pos (by simpa using hks), getD_get s k hks]
          have hc1 := s[k].toNat_lt
          clear hk0
          go_wp2
          refine ⟨⟨k + 1, by omega, by go_num, ?_, ?_, hb⟩, by simp [intOf]; omega⟩
          · rw [HS.out, HX.out]
          · rw [HS.out, HX.out]
        · have HX : Hid (bx s.data.toList 4 k = (0, 63)) := by
            unfold Hid bx; rw [if_neg hk0, if_neg (by simpa using hks)]
          have hks' : ¬ ((k : Int) < s.size) := by omega
          clear hk0
          go_wp2
          refine ⟨⟨k + 1, by omega, by go_num, ?_, ?_, hb⟩, by simp [intOf]; omega⟩
          · rw [HS.out, HX.out]; congr 1; dsimp only; omega
          · rw [HS.out, HX.out]
    · obtain rfl : k = 4 := by omega
      go_wp2
      go_ret2
      exact ⟨rfl, hb⟩

end Go.Proofs.YtdgcdjpjnhlihaaGreatDoor
set_option linter.unusedVariables false
namespace Go.Proofs.YtdgcdjpjnhlihaaGreatDoor
open Go.RowKit Go.Shelf

/-- The bytes behind the first go on. -/
def contB (b : List UInt8) : Bool := ((List.range b.length).drop 1).any (fun i => decide ((b.getD i 0).toNat < 128 ∨ 191 < (b.getD i 0).toNat))
theorem contB_bad (b : List UInt8) (k : Nat) (h1 : 1 ≤ k) (h2 : k < b.length) (h : (b.getD k 0).toNat < 128 ∨ 191 < (b.getD k 0).toNat) : contB b = true := by
  unfold contB
  rw [List.any_eq_true]
  refine ⟨k, ?_, by simpa using h⟩
  rw [List.mem_iff_getElem?]
  exact ⟨k - 1, by rw [List.getElem?_drop, show 1 + (k - 1) = k by omega, List.getElem?_range h2]⟩
theorem contB_good (b : List UInt8) (h : ∀ j, 1 ≤ j → j < b.length → 128 ≤ (b.getD j 0).toNat ∧ (b.getD j 0).toNat ≤ 191) : contB b = false := by
  unfold contB
  rw [List.any_eq_false]
  intro x hx
  rw [List.mem_iff_getElem?] at hx
  obtain ⟨i, hi⟩ := hx
  rw [List.getElem?_drop] at hi
  have hl : 1 + i < b.length := by
    have := (List.getElem?_eq_some_iff.1 hi).1
    simpa using this
  rw [List.getElem?_range hl] at hi
  obtain rfl := Option.some.inj hi
  have h2 := h (1 + i) (by omega) hl
  rw [decide_eq_true_iff]
  omega
theorem bgs_eq (b : List UInt8) (n : Nat) (hn : lg (b.getD 0 0).toNat = n) : bgs b = (if n = 0 ∨ n < b.length then false
  else if contB b then false
  else if n = 1 then true
  else
    let low := max (bnd b n n).1 (if n = 2 then 128 else if n = 3 then 2048 else 65536)
    let high := min (bnd b n n).2 (if n = 2 then 2047 else if n = 3 then 65535 else 1114111)
    if n = 3 ∧ 55296 ≤ low ∧ high ≤ 57343 then false else decide (low ≤ high)) := by
  subst hn; rfl

theorem bgs_zero (b : List UInt8) (n : Nat) (hn : lg (b.getD 0 0).toNat = n) (h : n = 0 ∨ n < b.length) : bgs b = false := by
  rw [bgs_eq b n hn, if_pos h]
theorem bgs_bad (b : List UInt8) (n : Nat) (hn : lg (b.getD 0 0).toNat = n) (h : contB b = true) : bgs b = false := by
  rw [bgs_eq b n hn]
  by_cases hc : n = 0 ∨ n < b.length
  · rw [if_pos hc]
  · rw [if_neg hc, if_pos h]
theorem bgs_one (b : List UInt8) (hn : lg (b.getD 0 0).toNat = 1) (h : ¬ 1 < b.length) (hc : contB b = false) : bgs b = true := by
  rw [bgs_eq b 1 hn, if_neg (by omega), hc, if_neg (by simp), if_pos rfl]
theorem bgs_some (b : List UInt8) (n : Nat) (hn : lg (b.getD 0 0).toNat = n) (h0 : n ≠ 0) (h : ¬ n < b.length) (hc : contB b = false) (h1 : n ≠ 1) (f l : Int)
    (hf : f = if n = 2 then 128 else if n = 3 then 2048 else 65536) (hl : l = if n = 2 then 2047 else if n = 3 then 65535 else 1114111) :
    bgs b = if n = 3 ∧ 55296 ≤ max (bnd b n n).1 f ∧ min (bnd b n n).2 l ≤ 57343 then false else decide (max (bnd b n n).1 f ≤ min (bnd b n n).2 l) := by
  subst hf hl
  rw [bgs_eq b n hn, if_neg (by omega), hc, if_neg (by simp), if_neg h1]

set_option maxRecDepth 100000 in
set_option maxHeartbeats 2000000 in
theorem begins_calls (s : ByteArray) (h0 : 0 < s.size) (hs : s.size ≤ 4) (w : World) :
    Calls Tryz.prog 84 #[.string s] w fun e w' => e = .returned (.bool (bgs s.data.toList)) ∧ Below w.heap.size w w' := by
  obtain ⟨n, hn⟩ : ∃ n, lg (s.data.toList.getD 0 0).toNat = n := ⟨_, rfl⟩
  have hn4 : n ≤ 4 := by rw [← hn]; exact lg_le _
  have HE := Lib.hid hn
  have hsl : s.data.toList.length = s.size := by simp
  have HSL := Lib.hid hsl
  have HL : Hid (∀ w, Calls Tryz.prog 85 #[.int .u8 (s[0].toNat : Nat)] w fun e w' => e = .returned (.int .i64 n) ∧ w' = w) := by
    intro w
    have h1 := long_calls s[0].toNat s[0].toNat_lt w
    have e : lg s[0].toNat = n := by rw [← getD_get s 0 h0]; exact hn
    rw [e] at h1
    exact h1
  clear hn
  by_cases hn0 : n = 0
  · subst hn0
    have HR := Lib.hid (bgs_zero s.data.toList 0 HE.out (.inl rfl))
    go_enter Tryz.func84, Tryz.ntmps84
    go_wp2_with fail
    refine (HL.out _).mono ?_
    rintro e w' ⟨rfl, rfl⟩
    go_wp2
    go_ret
    exact ⟨ret_bool HR.out.symm, Below.refl _ _⟩
  have hn0' : ((n : Int) == 0) = false := beq_eq_false_iff_ne.2 (by omega)
  by_cases hnl : n < s.size
  · have HR := Lib.hid (bgs_zero s.data.toList n HE.out (.inr (by rw [hsl]; exact hnl)))
    have hnl' : (n : Int) < s.size := by omega
    go_enter Tryz.func84, Tryz.ntmps84
    go_wp2_with fail
    refine (HL.out _).mono ?_
    rintro e w' ⟨rfl, rfl⟩
    go_wp2
    go_ret
    exact ⟨ret_bool HR.out.symm, Below.refl _ _⟩
  have hnl' : ¬ ((n : Int) < s.size) := by omega
  go_enter Tryz.func84, Tryz.ntmps84
  go_wp2_with fail
  refine (HL.out _).mono ?_
  rintro e w' ⟨rfl, rfl⟩
  go_wp2
  clear HL
  go_loop [4] (fun v => ∃ k : Nat, 1 ≤ k ∧ k ≤ s.size ∧ v = .int .i64 k ∧ Hid (∀ j, 1 ≤ j → j < k → 128 ≤ (s.data.toList.getD j 0).toNat ∧ (s.data.toList.getD j 0).toNat ≤ 191)) (fun v => s.size - (intOf v).toNat)
  case atStart => exact ⟨1, by omega, by omega, rfl, fun j h1 h2 => by omega⟩
  case round =>
    obtain ⟨k, hk1, hk, rfl, HG⟩ := hrel
    by_cases hlt : k < s.size
    · have hlt' : (k : Int) < s.size := by omega
      have hgd := Lib.hid (getD_get s k hlt)
      obtain ⟨c, hc⟩ : ∃ c, s[k].toNat = c := ⟨_, rfl⟩
      have HC := Lib.hid hc
      by_cases hg : 128 ≤ c ∧ c ≤ 191
      · have g1 : ¬ ((s[k].toNat : Int) < 128) := by omega
        have g2 : ¬ ((191 : Int) < (s[k].toNat : Int)) := by omega
        clear hc
        go_wp2
        refine ⟨⟨k + 1, by omega, by omega, by go_num, ?_⟩, by simp [intOf]; omega⟩
        intro j h1 h2
        by_cases e : j = k
        · subst e; rw [hgd.out, HC.out]; exact hg
        · exact HG.out j h1 (by omega)
      · have HB := Lib.hid (contB_bad s.data.toList k hk1 (by omega) (by rw [hgd.out, HC.out]; omega))
        have HR := Lib.hid (bgs_bad s.data.toList n HE.out HB.out)
        by_cases g1 : (s[k].toNat : Int) < 128
        · clear hc hg
          go_wp2
          go_ret
          exact ⟨ret_bool HR.out.symm, Below.refl _ _⟩
        · have g2 : (191 : Int) < (s[k].toNat : Int) := by omega
          clear hc hg
          go_wp2
          go_ret
          exact ⟨ret_bool HR.out.symm, Below.refl _ _⟩
    · obtain rfl : k = s.size := by omega
      have HB := Lib.hid (contB_good s.data.toList (by rw [hsl]; exact HG.out))
      clear HG
      have hn3 : n = 1 ∨ n = 2 ∨ n = 3 ∨ n = 4 := by omega
      rcases hn3 with rfl | rfl | rfl | rfl
      · have HR := Lib.hid (bgs_one s.data.toList HE.out (by omega) HB.out)
        go_wp2
        go_ret
        exact ⟨ret_bool HR.out.symm, Below.refl _ _⟩
      · have HR := Lib.hid (bgs_some s.data.toList 2 HE.out (by omega) (by omega) HB.out (by omega) 128 2047 rfl rfl)
        have hbd := bnd_le s.data.toList 2 2 (by omega)
        go_wp2_with fail
        refine (bounds2_calls s h0 _).mono ?_
        rintro e w1 ⟨rfl, hb1⟩
        generalize (bnd s.data.toList 2 2).1 = lo at *
        generalize (bnd s.data.toList 2 2).2 = hi at *
        go_wp2
        go_ret
        exact ⟨ret_bool (by rw [HR.out, if_neg (by omega)]), (hb1.alloc hb1.size _).alloc (by simp; have := hb1.size; omega) _⟩
      · have HR := Lib.hid (bgs_some s.data.toList 3 HE.out (by omega) (by omega) HB.out (by omega) 2048 65535 rfl rfl)
        have hbd := bnd_le s.data.toList 3 3 (by omega)
        go_wp2_with fail
        refine (bounds3_calls s h0 _).mono ?_
        rintro e w1 ⟨rfl, hb1⟩
        generalize (bnd s.data.toList 3 3).1 = lo at *
        generalize (bnd s.data.toList 3 3).2 = hi at *
        have hbf : ∀ o1 o2, Below w'.heap.size w' ((w1.alloc o1).alloc o2) := fun o1 o2 => (hb1.alloc hb1.size _).alloc (by simp; have := hb1.size; omega) _
        by_cases c1 : 55296 ≤ max lo 2048
        · by_cases c2 : min hi 65535 ≤ 57343
          · have HR2 : Hid (bgs s.data.toList = false) := by unfold Hid; rw [HR.out, if_pos ⟨by trivial, c1, c2⟩]
            go_wp2
            go_ret
            exact ⟨ret_bool HR2.out.symm, hbf _ _⟩
          · have HR2 : Hid (bgs s.data.toList = decide (max lo 2048 ≤ min hi 65535)) := by unfold Hid; rw [HR.out, if_neg (fun h => c2 h.2.2)]
            go_wp2
            go_ret
            exact ⟨ret_bool HR2.out.symm, hbf _ _⟩
        · have HR2 : Hid (bgs s.data.toList = decide (max lo 2048 ≤ min hi 65535)) := by unfold Hid; rw [HR.out, if_neg (fun h => c1 h.2.1)]
          go_wp2
          go_ret
          exact ⟨ret_bool HR2.out.symm, hbf _ _⟩
      · have HR := Lib.hid (bgs_some s.data.toList 4 HE.out (by omega) (by omega) HB.out (by omega) 65536 1114111 rfl rfl)
        have hbd := bnd_le s.data.toList 4 4 (by omega)
        go_wp2_with fail
        refine (bounds4_calls s h0 _).mono ?_
        rintro e w1 ⟨rfl, hb1⟩
        generalize (bnd s.data.toList 4 4).1 = lo at *
        generalize (bnd s.data.toList 4 4).2 = hi at *
        go_wp2
        go_ret
        exact ⟨ret_bool (by rw [HR.out, if_neg (by omega)]), (hb1.alloc hb1.size _).alloc (by simp; have := hb1.size; omega) _⟩
end Go.Proofs.YtdgcdjpjnhlihaaGreatDoor
set_option linter.unusedVariables false
namespace Go.Proofs.YtdgcdjpjnhlihaaGreatDoor
open Go.Lib

theorem lg1 (c : Nat) (h : c < 128) : lg c = 1 := by unfold lg; rw [if_pos h]
theorem lg0 (c : Nat) (h : (128 ≤ c ∧ c < 194) ∨ 245 ≤ c) : lg c = 0 := by unfold lg; rw [if_neg (by omega), if_neg (by omega), if_neg (by omega), if_neg (by omega)]
theorem lg2 (c : Nat) (h : 194 ≤ c ∧ c < 224) : lg c = 2 := by unfold lg; rw [if_neg (by omega), if_pos (by omega)]
theorem lg3 (c : Nat) (h : 224 ≤ c ∧ c < 240) : lg c = 3 := by unfold lg; rw [if_neg (by omega), if_neg (by omega), if_pos (by omega)]
theorem lg4 (c : Nat) (h : 240 ≤ c ∧ c < 245) : lg c = 4 := by unfold lg; rw [if_neg (by omega), if_neg (by omega), if_neg (by omega), if_pos (by omega)]

theorem cb2 (a b : UInt8) : contB [a, b] = decide (b.toNat < 128 ∨ 191 < b.toNat) := by simp [contB, List.range, List.range.loop]
theorem cb3 (a b c : UInt8) : contB [a, b, c] = (decide (b.toNat < 128 ∨ 191 < b.toNat) || decide (c.toNat < 128 ∨ 191 < c.toNat)) := by simp [contB, List.range, List.range.loop]
theorem cb4 (a b c d : UInt8) : contB [a, b, c, d] = (decide (b.toNat < 128 ∨ 191 < b.toNat) || (decide (c.toNat < 128 ∨ 191 < c.toNat) || decide (d.toNat < 128 ∨ 191 < d.toNat))) := by simp [contB, List.range, List.range.loop]

theorem lo_ge' (c : Nat) : 128 ≤ lof c ∧ hif c ≤ 191 := by unfold lof hif; (repeat' split) <;> omega

set_option maxHeartbeats 2000000 in
theorem bg1 (a : UInt8) : bgs [a] = decide (a.toNat < 128 ∨ (194 ≤ a.toNat ∧ a.toNat ≤ 244)) := by
  have ka := a.toNat_lt
  have hlo : 128 ≤ lof a.toNat ∧ hif a.toNat ≤ 191 := lo_ge' a.toNat
  by_cases c0 : (128 ≤ a.toNat ∧ a.toNat < 194) ∨ 245 ≤ a.toNat
  · rw [bgs_zero [a] 0 (lg0 a.toNat c0) (.inl rfl)]; symm; rw [decide_eq_false_iff_not]; omega
  by_cases c1 : a.toNat < 128
  · have hcb : contB [a] = false := rfl
    rw [bgs_one [a] (lg1 a.toNat c1) (by simp) hcb]; symm; rw [decide_eq_true_iff]; omega
  by_cases c2 : 194 ≤ a.toNat ∧ a.toNat < 224
  · have hcb : contB [a] = false := rfl
    rw [bgs_some [a] 2 (lg2 a.toNat c2) (by omega) (by simp) hcb (by omega) 128 2047 rfl rfl]
    have e : bnd [a] 2 2 = ((((a.toNat : Int) - 192) * 64), (((a.toNat : Int) - 192) * 64 + 63)) := by simp [bnd, bx, mk0]
    rw [e]
    dsimp only
    rw [if_neg (by omega)]
    rw [decide_eq_decide]
    (try unfold lof hif)
    (repeat' split) <;> omega
  by_cases c3 : 224 ≤ a.toNat ∧ a.toNat < 240
  · have hcb : contB [a] = false := rfl
    rw [bgs_some [a] 3 (lg3 a.toNat c3) (by omega) (by simp) hcb (by omega) 2048 65535 rfl rfl]
    have e : bnd [a] 3 3 = (((((a.toNat : Int) - 224) * 64) * 64), ((((a.toNat : Int) - 224) * 64 + 63) * 64 + 63)) := by simp [bnd, bx, mk0]
    rw [e]
    dsimp only
    by_cases cs : (3 : Nat) = 3 ∧ 55296 ≤ max (((((a.toNat : Int) - 224) * 64) * 64)) 2048 ∧ min (((((a.toNat : Int) - 224) * 64 + 63) * 64 + 63)) 65535 ≤ 57343
    · rw [if_pos cs]; symm; rw [decide_eq_false_iff_not]; (try unfold lof hif); (repeat' split) <;> omega
    rw [if_neg cs]
    rw [decide_eq_decide]
    (try unfold lof hif)
    (repeat' split) <;> omega
  by_cases c4 : 240 ≤ a.toNat ∧ a.toNat < 245
  · have hcb : contB [a] = false := rfl
    rw [bgs_some [a] 4 (lg4 a.toNat c4) (by omega) (by simp) hcb (by omega) 65536 1114111 rfl rfl]
    have e : bnd [a] 4 4 = ((((((a.toNat : Int) - 240) * 64) * 64) * 64), (((((a.toNat : Int) - 240) * 64 + 63) * 64 + 63) * 64 + 63)) := by simp [bnd, bx, mk0]
    rw [e]
    dsimp only
    rw [if_neg (by omega)]
    rw [decide_eq_decide]
    (try unfold lof hif)
    (repeat' split) <;> omega
  exfalso; omega

set_option maxHeartbeats 2000000 in
theorem bg2 (a b : UInt8) : bgs [a, b] = decide (194 ≤ a.toNat ∧ a.toNat ≤ 244 ∧ lof a.toNat ≤ b.toNat ∧ b.toNat ≤ hif a.toNat) := by
  have ka := a.toNat_lt
  have kb := b.toNat_lt
  have hlo : 128 ≤ lof a.toNat ∧ hif a.toNat ≤ 191 := lo_ge' a.toNat
  by_cases c0 : (128 ≤ a.toNat ∧ a.toNat < 194) ∨ 245 ≤ a.toNat
  · rw [bgs_zero [a, b] 0 (lg0 a.toNat c0) (.inl rfl)]; symm; rw [decide_eq_false_iff_not]; omega
  by_cases c1 : a.toNat < 128
  · rw [bgs_zero [a, b] 1 (lg1 a.toNat c1) (.inr (by simp))]; symm; rw [decide_eq_false_iff_not]; omega
  by_cases c2 : 194 ≤ a.toNat ∧ a.toNat < 224
  · by_cases cb : (b.toNat < 128 ∨ 191 < b.toNat)
    · rw [bgs_bad [a, b] 2 (lg2 a.toNat c2) (by rw [cb2]; simp; omega)]; symm; rw [decide_eq_false_iff_not]; omega
    have hcb : contB [a, b] = false := by rw [cb2]; simp; omega
    rw [bgs_some [a, b] 2 (lg2 a.toNat c2) (by omega) (by simp) hcb (by omega) 128 2047 rfl rfl]
    have e : bnd [a, b] 2 2 = ((((a.toNat : Int) - 192) * 64 + ((b.toNat : Int) - 128)), (((a.toNat : Int) - 192) * 64 + ((b.toNat : Int) - 128))) := by simp [bnd, bx, mk0]
    rw [e]
    dsimp only
    rw [if_neg (by omega)]
    rw [decide_eq_decide]
    (try unfold lof hif)
    (repeat' split) <;> omega
  by_cases c3 : 224 ≤ a.toNat ∧ a.toNat < 240
  · by_cases cb : (b.toNat < 128 ∨ 191 < b.toNat)
    · rw [bgs_bad [a, b] 3 (lg3 a.toNat c3) (by rw [cb2]; simp; omega)]; symm; rw [decide_eq_false_iff_not]; omega
    have hcb : contB [a, b] = false := by rw [cb2]; simp; omega
    rw [bgs_some [a, b] 3 (lg3 a.toNat c3) (by omega) (by simp) hcb (by omega) 2048 65535 rfl rfl]
    have e : bnd [a, b] 3 3 = (((((a.toNat : Int) - 224) * 64 + ((b.toNat : Int) - 128)) * 64), ((((a.toNat : Int) - 224) * 64 + ((b.toNat : Int) - 128)) * 64 + 63)) := by simp [bnd, bx, mk0]
    rw [e]
    dsimp only
    by_cases cs : (3 : Nat) = 3 ∧ 55296 ≤ max (((((a.toNat : Int) - 224) * 64 + ((b.toNat : Int) - 128)) * 64)) 2048 ∧ min (((((a.toNat : Int) - 224) * 64 + ((b.toNat : Int) - 128)) * 64 + 63)) 65535 ≤ 57343
    · rw [if_pos cs]; symm; rw [decide_eq_false_iff_not]; (try unfold lof hif); (repeat' split) <;> omega
    rw [if_neg cs]
    rw [decide_eq_decide]
    (try unfold lof hif)
    (repeat' split) <;> omega
  by_cases c4 : 240 ≤ a.toNat ∧ a.toNat < 245
  · by_cases cb : (b.toNat < 128 ∨ 191 < b.toNat)
    · rw [bgs_bad [a, b] 4 (lg4 a.toNat c4) (by rw [cb2]; simp; omega)]; symm; rw [decide_eq_false_iff_not]; omega
    have hcb : contB [a, b] = false := by rw [cb2]; simp; omega
    rw [bgs_some [a, b] 4 (lg4 a.toNat c4) (by omega) (by simp) hcb (by omega) 65536 1114111 rfl rfl]
    have e : bnd [a, b] 4 4 = ((((((a.toNat : Int) - 240) * 64 + ((b.toNat : Int) - 128)) * 64) * 64), (((((a.toNat : Int) - 240) * 64 + ((b.toNat : Int) - 128)) * 64 + 63) * 64 + 63)) := by simp [bnd, bx, mk0]
    rw [e]
    dsimp only
    rw [if_neg (by omega)]
    rw [decide_eq_decide]
    (try unfold lof hif)
    (repeat' split) <;> omega
  exfalso; omega

set_option maxHeartbeats 2000000 in
theorem bg3 (a b c : UInt8) : bgs [a, b, c] = decide (224 ≤ a.toNat ∧ a.toNat ≤ 244 ∧ lof a.toNat ≤ b.toNat ∧ b.toNat ≤ hif a.toNat ∧ 128 ≤ c.toNat ∧ c.toNat ≤ 191) := by
  have ka := a.toNat_lt
  have kb := b.toNat_lt
  have kc := c.toNat_lt
  have hlo : 128 ≤ lof a.toNat ∧ hif a.toNat ≤ 191 := lo_ge' a.toNat
  by_cases c0 : (128 ≤ a.toNat ∧ a.toNat < 194) ∨ 245 ≤ a.toNat
  · rw [bgs_zero [a, b, c] 0 (lg0 a.toNat c0) (.inl rfl)]; symm; rw [decide_eq_false_iff_not]; omega
  by_cases c1 : a.toNat < 128
  · rw [bgs_zero [a, b, c] 1 (lg1 a.toNat c1) (.inr (by simp))]; symm; rw [decide_eq_false_iff_not]; omega
  by_cases c2 : 194 ≤ a.toNat ∧ a.toNat < 224
  · rw [bgs_zero [a, b, c] 2 (lg2 a.toNat c2) (.inr (by simp))]; symm; rw [decide_eq_false_iff_not]; omega
  by_cases c3 : 224 ≤ a.toNat ∧ a.toNat < 240
  · by_cases cb : (b.toNat < 128 ∨ 191 < b.toNat) ∨ (c.toNat < 128 ∨ 191 < c.toNat)
    · rw [bgs_bad [a, b, c] 3 (lg3 a.toNat c3) (by rw [cb3]; simp; omega)]; symm; rw [decide_eq_false_iff_not]; omega
    have hcb : contB [a, b, c] = false := by rw [cb3]; simp; omega
    rw [bgs_some [a, b, c] 3 (lg3 a.toNat c3) (by omega) (by simp) hcb (by omega) 2048 65535 rfl rfl]
    have e : bnd [a, b, c] 3 3 = (((((a.toNat : Int) - 224) * 64 + ((b.toNat : Int) - 128)) * 64 + ((c.toNat : Int) - 128)), ((((a.toNat : Int) - 224) * 64 + ((b.toNat : Int) - 128)) * 64 + ((c.toNat : Int) - 128))) := by simp [bnd, bx, mk0]
    rw [e]
    dsimp only
    by_cases cs : (3 : Nat) = 3 ∧ 55296 ≤ max (((((a.toNat : Int) - 224) * 64 + ((b.toNat : Int) - 128)) * 64 + ((c.toNat : Int) - 128))) 2048 ∧ min (((((a.toNat : Int) - 224) * 64 + ((b.toNat : Int) - 128)) * 64 + ((c.toNat : Int) - 128))) 65535 ≤ 57343
    · rw [if_pos cs]; symm; rw [decide_eq_false_iff_not]; (try unfold lof hif); (repeat' split) <;> omega
    rw [if_neg cs]
    rw [decide_eq_decide]
    (try unfold lof hif)
    (repeat' split) <;> omega
  by_cases c4 : 240 ≤ a.toNat ∧ a.toNat < 245
  · by_cases cb : (b.toNat < 128 ∨ 191 < b.toNat) ∨ (c.toNat < 128 ∨ 191 < c.toNat)
    · rw [bgs_bad [a, b, c] 4 (lg4 a.toNat c4) (by rw [cb3]; simp; omega)]; symm; rw [decide_eq_false_iff_not]; omega
    have hcb : contB [a, b, c] = false := by rw [cb3]; simp; omega
    rw [bgs_some [a, b, c] 4 (lg4 a.toNat c4) (by omega) (by simp) hcb (by omega) 65536 1114111 rfl rfl]
    have e : bnd [a, b, c] 4 4 = ((((((a.toNat : Int) - 240) * 64 + ((b.toNat : Int) - 128)) * 64 + ((c.toNat : Int) - 128)) * 64), (((((a.toNat : Int) - 240) * 64 + ((b.toNat : Int) - 128)) * 64 + ((c.toNat : Int) - 128)) * 64 + 63)) := by simp [bnd, bx, mk0]
    rw [e]
    dsimp only
    rw [if_neg (by omega)]
    rw [decide_eq_decide]
    (try unfold lof hif)
    (repeat' split) <;> omega
  exfalso; omega

set_option maxHeartbeats 2000000 in
theorem bg4 (a b c d : UInt8) : bgs [a, b, c, d] = decide (240 ≤ a.toNat ∧ a.toNat ≤ 244 ∧ lof a.toNat ≤ b.toNat ∧ b.toNat ≤ hif a.toNat ∧ 128 ≤ c.toNat ∧ c.toNat ≤ 191 ∧ 128 ≤ d.toNat ∧ d.toNat ≤ 191) := by
  have ka := a.toNat_lt
  have kb := b.toNat_lt
  have kc := c.toNat_lt
  have kd := d.toNat_lt
  have hlo : 128 ≤ lof a.toNat ∧ hif a.toNat ≤ 191 := lo_ge' a.toNat
  by_cases c0 : (128 ≤ a.toNat ∧ a.toNat < 194) ∨ 245 ≤ a.toNat
  · rw [bgs_zero [a, b, c, d] 0 (lg0 a.toNat c0) (.inl rfl)]; symm; rw [decide_eq_false_iff_not]; omega
  by_cases c1 : a.toNat < 128
  · rw [bgs_zero [a, b, c, d] 1 (lg1 a.toNat c1) (.inr (by simp))]; symm; rw [decide_eq_false_iff_not]; omega
  by_cases c2 : 194 ≤ a.toNat ∧ a.toNat < 224
  · rw [bgs_zero [a, b, c, d] 2 (lg2 a.toNat c2) (.inr (by simp))]; symm; rw [decide_eq_false_iff_not]; omega
  by_cases c3 : 224 ≤ a.toNat ∧ a.toNat < 240
  · rw [bgs_zero [a, b, c, d] 3 (lg3 a.toNat c3) (.inr (by simp))]; symm; rw [decide_eq_false_iff_not]; omega
  by_cases c4 : 240 ≤ a.toNat ∧ a.toNat < 245
  · by_cases cb : (b.toNat < 128 ∨ 191 < b.toNat) ∨ (c.toNat < 128 ∨ 191 < c.toNat) ∨ (d.toNat < 128 ∨ 191 < d.toNat)
    · rw [bgs_bad [a, b, c, d] 4 (lg4 a.toNat c4) (by rw [cb4]; simp; omega)]; symm; rw [decide_eq_false_iff_not]; omega
    have hcb : contB [a, b, c, d] = false := by rw [cb4]; simp; omega
    rw [bgs_some [a, b, c, d] 4 (lg4 a.toNat c4) (by omega) (by simp) hcb (by omega) 65536 1114111 rfl rfl]
    have e : bnd [a, b, c, d] 4 4 = ((((((a.toNat : Int) - 240) * 64 + ((b.toNat : Int) - 128)) * 64 + ((c.toNat : Int) - 128)) * 64 + ((d.toNat : Int) - 128)), (((((a.toNat : Int) - 240) * 64 + ((b.toNat : Int) - 128)) * 64 + ((c.toNat : Int) - 128)) * 64 + ((d.toNat : Int) - 128))) := by simp [bnd, bx, mk0]
    rw [e]
    dsimp only
    rw [if_neg (by omega)]
    rw [decide_eq_decide]
    (try unfold lof hif)
    (repeat' split) <;> omega
  exfalso; omega

/-- The greatest number of bytes, up to four, so that each beginning up to it begins a code point's. -/
def most (l : List UInt8) : Nat :=
  if 1 ≤ l.length ∧ bgs (l.take 1) = true then
    (if 2 ≤ l.length ∧ bgs (l.take 2) = true then
      (if 3 ≤ l.length ∧ bgs (l.take 3) = true then
        (if 4 ≤ l.length ∧ bgs (l.take 4) = true then 4 else 3) else 2) else 1) else 0
/-- The document's piece. -/
def refP (l : List UInt8) : Nat × Int × Bool :=
  if most l = 0 then (1, 65533, false) else if most l < lg (l.getD 0 0).toNat then (most l, 65533, false)
  else (most l, if most l = 1 then ((l.getD 0 0).toNat : Int) else (bnd (l.take (most l)) (most l) (most l)).1, true)

theorem most1 (a : UInt8) : most [a] = if a.toNat < 128 ∨ (194 ≤ a.toNat ∧ a.toNat ≤ 244) then 1 else 0 := by
  unfold most
  rw [show ([a] : List UInt8).take 1 = [a] from rfl, bg1]
  simp
theorem most2 (a b : UInt8) : most [a, b] = if a.toNat < 128 ∨ (194 ≤ a.toNat ∧ a.toNat ≤ 244) then (if 194 ≤ a.toNat ∧ a.toNat ≤ 244 ∧ lof a.toNat ≤ b.toNat ∧ b.toNat ≤ hif a.toNat then 2 else 1) else 0 := by
  unfold most
  rw [show ([a, b] : List UInt8).take 1 = [a] from rfl, show ([a, b] : List UInt8).take 2 = [a, b] from rfl, bg1, bg2]
  simp
theorem most3 (a b c : UInt8) : most [a, b, c] = if a.toNat < 128 ∨ (194 ≤ a.toNat ∧ a.toNat ≤ 244) then (if 194 ≤ a.toNat ∧ a.toNat ≤ 244 ∧ lof a.toNat ≤ b.toNat ∧ b.toNat ≤ hif a.toNat then (if 224 ≤ a.toNat ∧ a.toNat ≤ 244 ∧ lof a.toNat ≤ b.toNat ∧ b.toNat ≤ hif a.toNat ∧ 128 ≤ c.toNat ∧ c.toNat ≤ 191 then 3 else 2) else 1) else 0 := by
  unfold most
  rw [show ([a, b, c] : List UInt8).take 1 = [a] from rfl, show ([a, b, c] : List UInt8).take 2 = [a, b] from rfl, show ([a, b, c] : List UInt8).take 3 = [a, b, c] from rfl, bg1, bg2, bg3]
  simp
theorem most4 (a b c d : UInt8) (t : List UInt8) : most (a :: b :: c :: d :: t) = if a.toNat < 128 ∨ (194 ≤ a.toNat ∧ a.toNat ≤ 244) then (if 194 ≤ a.toNat ∧ a.toNat ≤ 244 ∧ lof a.toNat ≤ b.toNat ∧ b.toNat ≤ hif a.toNat then (if 224 ≤ a.toNat ∧ a.toNat ≤ 244 ∧ lof a.toNat ≤ b.toNat ∧ b.toNat ≤ hif a.toNat ∧ 128 ≤ c.toNat ∧ c.toNat ≤ 191 then (if 240 ≤ a.toNat ∧ a.toNat ≤ 244 ∧ lof a.toNat ≤ b.toNat ∧ b.toNat ≤ hif a.toNat ∧ 128 ≤ c.toNat ∧ c.toNat ≤ 191 ∧ 128 ≤ d.toNat ∧ d.toNat ≤ 191 then 4 else 3) else 2) else 1) else 0 := by
  unfold most
  rw [show (a :: b :: c :: d :: t).take 1 = [a] from rfl, show (a :: b :: c :: d :: t).take 2 = [a, b] from rfl, show (a :: b :: c :: d :: t).take 3 = [a, b, c] from rfl, show (a :: b :: c :: d :: t).take 4 = [a, b, c, d] from rfl, bg1, bg2, bg3, bg4]
  simp
end Go.Proofs.YtdgcdjpjnhlihaaGreatDoor
set_option linter.unusedVariables false
namespace Go.Proofs.YtdgcdjpjnhlihaaGreatDoor
open Go.Lib

def mostN (n A B C D : Nat) : Nat :=
  if A < 128 ∨ (194 ≤ A ∧ A ≤ 244) then
    (if 2 ≤ n ∧ 194 ≤ A ∧ A ≤ 244 ∧ lof A ≤ B ∧ B ≤ hif A then
      (if 3 ≤ n ∧ 224 ≤ A ∧ A ≤ 244 ∧ lof A ≤ B ∧ B ≤ hif A ∧ 128 ≤ C ∧ C ≤ 191 then
        (if 4 ≤ n ∧ 240 ≤ A ∧ A ≤ 244 ∧ lof A ≤ B ∧ B ≤ hif A ∧ 128 ≤ C ∧ C ≤ 191 ∧ 128 ≤ D ∧ D ≤ 191 then 4 else 3) else 2) else 1) else 0
theorem most_N (l : List UInt8) (h : l ≠ []) : most l = mostN l.length (l.getD 0 0).toNat (l.getD 1 0).toNat (l.getD 2 0).toNat (l.getD 3 0).toNat := by
  unfold mostN
  match l, h with
  | [a], _ => rw [most1]; simp
  | [a, b], _ => rw [most2]; simp
  | [a, b, c], _ => rw [most3]; simp
  | a :: b :: c :: d :: t, _ => rw [most4]; simp
theorem bnd2 (a b : UInt8) : (bnd [a, b] 2 2).1 = ((a.toNat : Int) - 192) * 64 + ((b.toNat : Int) - 128) := by simp [bnd, bx, mk0]
theorem bnd3 (a b c : UInt8) : (bnd [a, b, c] 3 3).1 = (((a.toNat : Int) - 224) * 64 + ((b.toNat : Int) - 128)) * 64 + ((c.toNat : Int) - 128) := by simp [bnd, bx, mk0]
theorem bnd4 (a b c d : UInt8) : (bnd [a, b, c, d] 4 4).1 = ((((a.toNat : Int) - 240) * 64 + ((b.toNat : Int) - 128)) * 64 + ((c.toNat : Int) - 128)) * 64 + ((d.toNat : Int) - 128) := by simp [bnd, bx, mk0]
theorem refP_no (l : List UInt8) (h : l ≠ []) (m : Nat) (hm : most l = m) (hp : pc l = (if m = 0 then 1 else m, false)) (hl : m = 0 ∨ m < lg (l.getD 0 0).toNat) : refP l = ((pc l).1, rn l, (pc l).2) := by
  rw [(pc_no l h (by rw [hp])).1, hp]
  unfold refP
  rw [hm]
  by_cases h0 : m = 0
  · rw [if_pos h0, if_pos h0]
  · rw [if_neg h0, if_neg h0, if_pos (by omega)]
theorem refP_yes (l : List UInt8) (h : l ≠ []) (m : Nat) (h0 : m ≠ 0) (hm : most l = m) (hp : pc l = (m, true)) (hl : lg (l.getD 0 0).toNat = m)
    (hv : (if m = 1 then ((l.getD 0 0).toNat : Int) else (bnd (l.take m) m m).1) = ((decodeN l.length (l.getD 0 0).toNat (l.getD 1 0).toNat (l.getD 2 0).toNat (l.getD 3 0).toNat).1 : Int)) : refP l = ((pc l).1, rn l, (pc l).2) := by
  have hr : rn l = ((decodeN l.length (l.getD 0 0).toNat (l.getD 1 0).toNat (l.getD 2 0).toNat (l.getD 3 0).toNat).1 : Int) := by
    unfold rn; rw [hp, if_pos rfl, decodeGo_L l h, decodeL_N]
  rw [hr, hp, ← hv]
  unfold refP
  rw [hm, hl, if_neg h0, if_neg (by omega)]

set_option maxHeartbeats 2000000 in
theorem refP_pc (l : List UInt8) (h : l ≠ []) : refP l = ((pc l).1, rn l, (pc l).2) := by
  have hM := most_N l h
  have hP := pc_N l h
  have hn : 1 ≤ l.length := List.length_pos_iff.2 h
  have k0 := (l.getD 0 0).toNat_lt
  have k1 := (l.getD 1 0).toNat_lt
  have k2 := (l.getD 2 0).toNat_lt
  have k3 := (l.getD 3 0).toNat_lt
  have t2 : 2 ≤ l.length → (bnd (l.take 2) 2 2).1 = (((l.getD 0 0).toNat : Int) - 192) * 64 + (((l.getD 1 0).toNat : Int) - 128) := fun h => by rw [takeB l h, bnd2]
  have t3 : 3 ≤ l.length → (bnd (l.take 3) 3 3).1 = ((((l.getD 0 0).toNat : Int) - 224) * 64 + (((l.getD 1 0).toNat : Int) - 128)) * 64 + (((l.getD 2 0).toNat : Int) - 128) := fun h => by rw [takeC l h, bnd3]
  have t4 : 4 ≤ l.length → (bnd (l.take 4) 4 4).1 = (((((l.getD 0 0).toNat : Int) - 240) * 64 + (((l.getD 1 0).toNat : Int) - 128)) * 64 + (((l.getD 2 0).toNat : Int) - 128)) * 64 + (((l.getD 3 0).toNat : Int) - 128) := fun h => by rw [takeD l h, bnd4]
  have RN := refP_no l h
  have RY := refP_yes l h
  generalize (l.getD 0 0).toNat = A at *
  generalize (l.getD 1 0).toNat = B at *
  generalize (l.getD 2 0).toNat = C at *
  generalize (l.getD 3 0).toNat = D at *
  generalize hnl : l.length = n at *
  have hlo : 128 ≤ lof A ∧ hif A ≤ 191 := lo_ge' A
  have hm2 : A < 224 → lof A = 128 ∧ hif A = 191 := fun h => by unfold lof hif; (repeat' split) <;> omega
  by_cases c0 : (128 ≤ A ∧ A < 194) ∨ 245 ≤ A
  ·
    refine RN 0 ?_ ?_ ?_
    · rw [hM]; unfold mostN; (repeat' split) <;> omega
    · rw [hP]; unfold pcN; (repeat' split) <;> first | rfl | (exfalso; omega)
    · exact .inl rfl
  by_cases c1 : A < 128
  ·
    refine RY 1 (by omega) ?_ ?_ (lg1 A c1) ?_
    · rw [hM]; unfold mostN; (repeat' split) <;> omega
    · rw [hP]; unfold pcN; (repeat' split) <;> first | rfl | (exfalso; omega)
    · rw [if_pos rfl]; unfold decodeN; rw [if_pos (by omega)]
  by_cases g2 : lof A ≤ B ∧ B ≤ hif A ∧ 2 ≤ n
  rotate_left
  ·
    by_cases c2 : A < 224
    ·
      refine RN 1 ?_ ?_ ?_
      · rw [hM]; unfold mostN; (repeat' split) <;> omega
      · rw [hP]; unfold pcN; (repeat' split) <;> first | rfl | (exfalso; omega)
      · rw [lg2 A (by omega)]; omega
    by_cases c3 : A < 240
    ·
      refine RN 1 ?_ ?_ ?_
      · rw [hM]; unfold mostN; (repeat' split) <;> omega
      · rw [hP]; unfold pcN; (repeat' split) <;> first | rfl | (exfalso; omega)
      · rw [lg3 A (by omega)]; omega
    ·
      refine RN 1 ?_ ?_ ?_
      · rw [hM]; unfold mostN; (repeat' split) <;> omega
      · rw [hP]; unfold pcN; (repeat' split) <;> first | rfl | (exfalso; omega)
      · rw [lg4 A (by omega)]; omega
  by_cases c2 : A < 224
  ·
    refine RY 2 (by omega) ?_ ?_ (lg2 A (by omega)) ?_
    · rw [hM]; unfold mostN; (repeat' split) <;> omega
    · rw [hP]; unfold pcN; (repeat' split) <;> first | rfl | (exfalso; omega)
    · rw [if_neg (by omega), t2 (by omega)]; unfold decodeN
      have hb : B / 64 = 2 := by omega
      rw [if_neg (by omega), if_pos (by omega), if_pos (by omega)]
      dsimp only; omega
  by_cases g3 : 128 ≤ C ∧ C ≤ 191 ∧ 3 ≤ n
  rotate_left
  ·
    by_cases c3 : A < 240
    ·
      refine RN 2 ?_ ?_ ?_
      · rw [hM]; unfold mostN; (repeat' split) <;> omega
      · rw [hP]; unfold pcN; (repeat' split) <;> first | rfl | (exfalso; omega)
      · rw [lg3 A (by omega)]; omega
    ·
      refine RN 2 ?_ ?_ ?_
      · rw [hM]; unfold mostN; (repeat' split) <;> omega
      · rw [hP]; unfold pcN; (repeat' split) <;> first | rfl | (exfalso; omega)
      · rw [lg4 A (by omega)]; omega
  by_cases c3 : A < 240
  ·
    refine RY 3 (by omega) ?_ ?_ (lg3 A (by omega)) ?_
    · rw [hM]; unfold mostN; (repeat' split) <;> omega
    · rw [hP]; unfold pcN; (repeat' split) <;> first | rfl | (exfalso; omega)
    · rw [if_neg (by omega), t3 (by omega)]; unfold decodeN
      have hb : B / 64 = 2 := by omega
      unfold lof at g2; unfold hif at g2
      rw [if_neg (by omega), if_neg (by omega), if_pos (by omega), if_pos (by (repeat' split at g2) <;> omega)]
      dsimp only; omega
  by_cases g4 : 128 ≤ D ∧ D ≤ 191 ∧ 4 ≤ n
  rotate_left
  ·
    refine RN 3 ?_ ?_ ?_
    · rw [hM]; unfold mostN; (repeat' split) <;> omega
    · rw [hP]; unfold pcN; (repeat' split) <;> first | rfl | (exfalso; omega)
    · rw [lg4 A (by omega)]; omega
  ·
    refine RY 4 (by omega) ?_ ?_ (lg4 A (by omega)) ?_
    · rw [hM]; unfold mostN; (repeat' split) <;> omega
    · rw [hP]; unfold pcN; (repeat' split) <;> first | rfl | (exfalso; omega)
    · rw [if_neg (by omega), t4 (by omega)]; unfold decodeN
      have hb : B / 64 = 2 := by omega
      unfold lof at g2; unfold hif at g2
      rw [if_neg (by omega), if_neg (by omega), if_neg (by omega), if_pos (by omega), if_pos (by (repeat' split at g2) <;> omega)]
      dsimp only; omega
end Go.Proofs.YtdgcdjpjnhlihaaGreatDoor
set_option linter.unusedVariables false
namespace Go.Proofs.YtdgcdjpjnhlihaaGreatDoor
open Go.RowKit Go.Shelf

theorem most_is (l : List UInt8) (m : Nat) (h : ∀ j, 1 ≤ j → j ≤ m → bgs (l.take j) = true) (h1 : m ≤ l.length) (h2 : m ≤ 4) (h3 : m = 4 ∨ l.length < m + 1 ∨ bgs (l.take (m + 1)) = false) : most l = m := by
  unfold most
  match m, h2, h, h1, h3 with
  | 0, _, h, h1, h3 =>
    rw [if_neg]
    rintro ⟨a, b⟩
    rcases h3 with h | h | h
    · omega
    · omega
    · rw [h] at b; cases b
  | 1, _, h, h1, h3 =>
    rw [if_pos ⟨h1, h 1 (by omega) (by omega)⟩, if_neg]
    rintro ⟨a, b⟩
    rcases h3 with h | h | h
    · omega
    · omega
    · rw [h] at b; cases b
  | 2, _, h, h1, h3 =>
    rw [if_pos ⟨by omega, h 1 (by omega) (by omega)⟩, if_pos ⟨h1, h 2 (by omega) (by omega)⟩, if_neg]
    rintro ⟨a, b⟩
    rcases h3 with h | h | h
    · omega
    · omega
    · rw [h] at b; cases b
  | 3, _, h, h1, h3 =>
    rw [if_pos ⟨by omega, h 1 (by omega) (by omega)⟩, if_pos ⟨by omega, h 2 (by omega) (by omega)⟩, if_pos ⟨h1, h 3 (by omega) (by omega)⟩, if_neg]
    rintro ⟨a, b⟩
    rcases h3 with h | h | h
    · omega
    · omega
    · rw [h] at b; cases b
  | 4, _, h, h1, h3 =>
    rw [if_pos ⟨by omega, h 1 (by omega) (by omega)⟩, if_pos ⟨by omega, h 2 (by omega) (by omega)⟩, if_pos ⟨by omega, h 3 (by omega) (by omega)⟩, if_pos ⟨h1, h 4 (by omega) (by omega)⟩]

set_option maxRecDepth 100000 in
set_option maxHeartbeats 4000000 in
theorem pieceR_calls (s : ByteArray) (at_ : Nat) (hlt : at_ < s.size) (hs : s.size ≤ 1099511627776) (w : World) :
    Calls Tryz.prog 41 #[.string s, .int .i64 at_] w fun e w' =>
      e = .returned (.tuple #[.int .i64 (pc (s.data.toList.drop at_)).1, .int .i32 (rn (s.data.toList.drop at_)), .bool (pc (s.data.toList.drop at_)).2]) ∧ Below w.heap.size w w' := by
  obtain ⟨L0, hL⟩ : ∃ L0, s.data.toList.drop at_ = L0 := ⟨_, rfl⟩
  have hsl : s.data.toList.length = s.size := by simp
  have hll : L0.length = s.size - at_ := by rw [← hL]; simp
  have hne : L0 ≠ [] := by intro e; rw [e] at hll; simp at hll; omega
  have KEY : Hid (∀ (m : Nat) (v : Int) (ok : Bool), refP L0 = (m, v, ok) → Ending.returned (.tuple #[.int .i64 (m : Int), .int .i32 v, .bool ok]) = .returned (.tuple #[.int .i64 (pc L0).1, .int .i32 (rn L0), .bool (pc L0).2])) := by
    intro m v ok h
    rw [refP_pc L0 hne] at h
    cases h; rfl
  have REFSC : Hid (∀ (m : Nat) (v : Int) (ok : Bool), refP L0 = (m, v, ok) → 0 ≤ v ∧ v ≤ 1114111) := by
    intro m v ok h
    rw [refP_pc L0 hne] at h
    have := rn_sc L0 hne
    cases h
    exact ⟨this.1, this.2.1⟩
  have hg0 : L0.getD 0 0 = s[at_] := by rw [← hL, ← getD_get s at_ hlt]; simp [List.getD]
  obtain ⟨lgn, hlg⟩ : ∃ lgn, lg (L0.getD 0 0).toNat = lgn := ⟨_, rfl⟩
  have hlg4 : lgn ≤ 4 := by rw [← hlg]; exact lg_le _
  have HLG := Lib.hid hlg
  have HC : Hid ((L0.getD 0 0).toNat = s[at_].toNat) := by unfold Hid; rw [hg0]
  have HL : Hid (∀ w, Calls Tryz.prog 85 #[.int .u8 (s[at_].toNat : Nat)] w fun e w' => e = .returned (.int .i64 lgn) ∧ w' = w) := by
    intro w
    have h1 := long_calls s[at_].toNat s[at_].toNat_lt w
    have e : lg s[at_].toNat = lgn := by rw [← HC.out]; exact hlg
    rw [e] at h1
    exact h1
  rw [hL]
  have hL0 := Lib.hid hL
  clear hlg hg0 hL hne hsl
  go_enter Tryz.func41, Tryz.ntmps41
  go_wp2
  go_loopw [7, 8] (fun v7 v8 wr => ∃ m : Nat, m ≤ 4 ∧ m ≤ L0.length ∧ v7 = .int .i64 m ∧ v8 = .int .i64 ((m : Int) + 1) ∧ Below w.heap.size w wr ∧ Hid (∀ j, 1 ≤ j → j ≤ m → bgs (L0.take j) = true)) (fun v7 _ _ => 5 - (intOf v7).toNat)
  case atStart => exact ⟨0, by omega, by omega, rfl, rfl, Below.refl _ _, fun j h1 h2 => by omega⟩
  case round =>
    obtain ⟨m, hm4, hml0, rfl, rfl, hb, HU⟩ := hrel
    by_cases hm : m = 4
    · have HM := Lib.hid (most_is L0 m HU.out hml0 hm4 (.inl hm))
      have hmn : ¬ ((m : Int) + 1 ≤ 4) := by omega
      clear HU
      have hm0 : m ≠ 0 := by omega
      have hm0' : ((m : Int) == 0) = false := beq_eq_false_iff_ne.2 (by omega)
      have hml : ¬ (m < lgn) := by omega
      have hml' : ¬ ((m : Int) < lgn) := by omega
      have HR : Hid (refP L0 = (m, if m = 1 then ((L0.getD 0 0).toNat : Int) else (bnd (L0.take m) m m).1, true)) := by unfold Hid refP; rw [HM.out, if_neg hm0, HLG.out, if_neg hml]
      clear hml
      obtain rfl : m = 4 := by omega
      have HV := Lib.hid (REFSC.out _ _ _ HR.out)
      have HX : Hid (L0.take 4 = (s.extract at_ (at_ + 4)).data.toList) := by unfold Hid; rw [← hL0.out, Lib.extract_data, show at_ + 4 - at_ = 4 by omega]
      rw [if_neg (by omega), HX.out] at HR HV
      have hvr := HV.out
      go_wp2_with fail
      refine (HL.out _).mono ?_
      rintro e w' ⟨rfl, rfl⟩
      go_wp2_with fail
      refine (bounds4_calls (s.extract at_ (at_ + 4)) (by simp; omega) _).mono ?_
      rintro e w1 ⟨rfl, hb1⟩
      have hbf := hb.trans (hb1.mono hb.size)
      generalize (bnd (s.extract at_ (at_ + 4)).data.toList 4 4).1 = lo at *
      generalize (bnd (s.extract at_ (at_ + 4)).data.toList 4 4).2 = hi at *
      go_wp2
      go_ret3
      exact ⟨KEY.out _ _ _ HR.out, hbf⟩
    by_cases hml : s.size < at_ + m + 1
    · have HM := Lib.hid (most_is L0 m HU.out hml0 hm4 (.inr (.inl (by omega))))
      have hmn : ((m : Int) + 1 ≤ 4) := by omega
      have hmk : ¬ ((at_ : Int) + ((m : Int) + 1) ≤ s.size) := by omega
      clear HU hml
      by_cases hm0 : m = 0
      · have hm0' : ((m : Int) == 0) = true := by rw [hm0]; rfl
        have HR : Hid (refP L0 = (1, 65533, false)) := by unfold Hid refP; rw [HM.out, if_pos hm0]
        clear hm0
        go_wp2
        go_ret3
        exact ⟨KEY.out _ _ _ HR.out, hb⟩
      have hm0' : ((m : Int) == 0) = false := beq_eq_false_iff_ne.2 (by omega)
      by_cases hml : m < lgn
      · have hml' : (m : Int) < lgn := by omega
        have HR : Hid (refP L0 = (m, 65533, false)) := by unfold Hid refP; rw [HM.out, if_neg hm0, HLG.out, if_pos hml]
        clear hm0
        go_wp2_with fail
        refine (HL.out _).mono ?_
        rintro e w' ⟨rfl, rfl⟩
        go_wp2
        go_ret3
        exact ⟨KEY.out _ _ _ HR.out, hb⟩
      have hml' : ¬ ((m : Int) < lgn) := by omega
      have HR : Hid (refP L0 = (m, if m = 1 then ((L0.getD 0 0).toNat : Int) else (bnd (L0.take m) m m).1, true)) := by unfold Hid refP; rw [HM.out, if_neg hm0, HLG.out, if_neg hml]
      clear hml
      have hcases : m = 1 ∨ m = 2 ∨ m = 3 := by omega
      rcases hcases with hM1 | hM1 | hM1
      · have hM1' : ((m : Int) == 1) = true := by rw [hM1]; rfl
        have hw0 : s[at_].toNat < 256 := s[at_].toNat_lt
        have HR1 : Hid (refP L0 = (m, (s[at_].toNat : Int), true)) := by unfold Hid; rw [HR.out, if_pos hM1, HC.out]
        clear hm0 hM1
        go_wp2_with fail
        refine (HL.out _).mono ?_
        rintro e w' ⟨rfl, rfl⟩
        go_wp2
        go_ret3
        exact ⟨KEY.out _ _ _ HR1.out, hb⟩
      · obtain rfl : m = 2 := by omega
        have HV := Lib.hid (REFSC.out _ _ _ HR.out)
        have HX : Hid (L0.take 2 = (s.extract at_ (at_ + 2)).data.toList) := by unfold Hid; rw [← hL0.out, Lib.extract_data, show at_ + 2 - at_ = 2 by omega]
        rw [if_neg (by omega), HX.out] at HR HV
        have hvr := HV.out
        go_wp2_with fail
        refine (HL.out _).mono ?_
        rintro e w' ⟨rfl, rfl⟩
        go_wp2_with fail
        refine (bounds2_calls (s.extract at_ (at_ + 2)) (by simp; omega) _).mono ?_
        rintro e w1 ⟨rfl, hb1⟩
        have hbf := hb.trans (hb1.mono hb.size)
        generalize (bnd (s.extract at_ (at_ + 2)).data.toList 2 2).1 = lo at *
        generalize (bnd (s.extract at_ (at_ + 2)).data.toList 2 2).2 = hi at *
        go_wp2
        go_ret3
        exact ⟨KEY.out _ _ _ HR.out, hbf⟩
      · obtain rfl : m = 3 := by omega
        have HV := Lib.hid (REFSC.out _ _ _ HR.out)
        have HX : Hid (L0.take 3 = (s.extract at_ (at_ + 3)).data.toList) := by unfold Hid; rw [← hL0.out, Lib.extract_data, show at_ + 3 - at_ = 3 by omega]
        rw [if_neg (by omega), HX.out] at HR HV
        have hvr := HV.out
        go_wp2_with fail
        refine (HL.out _).mono ?_
        rintro e w' ⟨rfl, rfl⟩
        go_wp2_with fail
        refine (bounds3_calls (s.extract at_ (at_ + 3)) (by simp; omega) _).mono ?_
        rintro e w1 ⟨rfl, hb1⟩
        have hbf := hb.trans (hb1.mono hb.size)
        generalize (bnd (s.extract at_ (at_ + 3)).data.toList 3 3).1 = lo at *
        generalize (bnd (s.extract at_ (at_ + 3)).data.toList 3 3).2 = hi at *
        go_wp2
        go_ret3
        exact ⟨KEY.out _ _ _ HR.out, hbf⟩
    have hmn : ((m : Int) + 1 ≤ 4) := by omega
    have hmk : ((at_ : Int) + ((m : Int) + 1) ≤ s.size) := by omega
    have htn : ((at_ : Int) + ((m : Int) + 1)).toNat = at_ + (m + 1) := by omega
    have HX0 : Hid (L0.take (m + 1) = (s.extract at_ (at_ + (m + 1))).data.toList) := by unfold Hid; rw [← hL0.out, Lib.extract_data, show at_ + (m + 1) - at_ = m + 1 by omega]
    have HBG : Hid (∀ w, Calls Tryz.prog 84 #[.string (s.extract at_ (at_ + (m + 1)))] w fun e w' => e = .returned (.bool (bgs (L0.take (m + 1)))) ∧ Below w.heap.size w w') := by
      intro w
      have := begins_calls (s.extract at_ (at_ + (m + 1))) (by simp; omega) (by simp; omega) w
      rwa [← HX0.out] at this
    go_wp2_with fail
    refine (HBG.out _).mono ?_
    rintro e w1 ⟨rfl, hb1⟩
    have hb2 := hb.trans (hb1.mono hb.size)
    clear hb hb1 HBG htn HX0
    cases hbg : bgs (L0.take (m + 1)) with
    | true =>
      have HB := Lib.hid hbg
      clear hbg
      go_wp2
      refine ⟨⟨m + 1, by omega, by omega, by go_num, by go_num, hb2, fun j h1 h2 => ?_⟩, by simp [intOf]; omega⟩
      by_cases e : j = m + 1
      · rw [e]; exact HB.out
      · exact HU.out j h1 (by omega)
    | false =>
      have HM := Lib.hid (most_is L0 m HU.out hml0 hm4 (.inr (.inr hbg)))
      have hb := hb2
      clear HU hbg hb2 hml
      by_cases hm0 : m = 0
      · have hm0' : ((m : Int) == 0) = true := by rw [hm0]; rfl
        have HR : Hid (refP L0 = (1, 65533, false)) := by unfold Hid refP; rw [HM.out, if_pos hm0]
        clear hm0
        go_wp2
        go_ret3
        exact ⟨KEY.out _ _ _ HR.out, hb⟩
      have hm0' : ((m : Int) == 0) = false := beq_eq_false_iff_ne.2 (by omega)
      by_cases hml : m < lgn
      · have hml' : (m : Int) < lgn := by omega
        have HR : Hid (refP L0 = (m, 65533, false)) := by unfold Hid refP; rw [HM.out, if_neg hm0, HLG.out, if_pos hml]
        clear hm0
        go_wp2_with fail
        refine (HL.out _).mono ?_
        rintro e w' ⟨rfl, rfl⟩
        go_wp2
        go_ret3
        exact ⟨KEY.out _ _ _ HR.out, hb⟩
      have hml' : ¬ ((m : Int) < lgn) := by omega
      have HR : Hid (refP L0 = (m, if m = 1 then ((L0.getD 0 0).toNat : Int) else (bnd (L0.take m) m m).1, true)) := by unfold Hid refP; rw [HM.out, if_neg hm0, HLG.out, if_neg hml]
      clear hml
      have hcases : m = 1 ∨ m = 2 ∨ m = 3 := by omega
      rcases hcases with hM1 | hM1 | hM1
      · have hM1' : ((m : Int) == 1) = true := by rw [hM1]; rfl
        have hw0 : s[at_].toNat < 256 := s[at_].toNat_lt
        have HR1 : Hid (refP L0 = (m, (s[at_].toNat : Int), true)) := by unfold Hid; rw [HR.out, if_pos hM1, HC.out]
        clear hm0 hM1
        go_wp2_with fail
        refine (HL.out _).mono ?_
        rintro e w' ⟨rfl, rfl⟩
        go_wp2
        go_ret3
        exact ⟨KEY.out _ _ _ HR1.out, hb⟩
      · obtain rfl : m = 2 := by omega
        have HV := Lib.hid (REFSC.out _ _ _ HR.out)
        have HX : Hid (L0.take 2 = (s.extract at_ (at_ + 2)).data.toList) := by unfold Hid; rw [← hL0.out, Lib.extract_data, show at_ + 2 - at_ = 2 by omega]
        rw [if_neg (by omega), HX.out] at HR HV
        have hvr := HV.out
        go_wp2_with fail
        refine (HL.out _).mono ?_
        rintro e w' ⟨rfl, rfl⟩
        go_wp2_with fail
        refine (bounds2_calls (s.extract at_ (at_ + 2)) (by simp; omega) _).mono ?_
        rintro e w1 ⟨rfl, hb1⟩
        have hbf := hb.trans (hb1.mono hb.size)
        generalize (bnd (s.extract at_ (at_ + 2)).data.toList 2 2).1 = lo at *
        generalize (bnd (s.extract at_ (at_ + 2)).data.toList 2 2).2 = hi at *
        go_wp2
        go_ret3
        exact ⟨KEY.out _ _ _ HR.out, hbf⟩
      · obtain rfl : m = 3 := by omega
        have HV := Lib.hid (REFSC.out _ _ _ HR.out)
        have HX : Hid (L0.take 3 = (s.extract at_ (at_ + 3)).data.toList) := by unfold Hid; rw [← hL0.out, Lib.extract_data, show at_ + 3 - at_ = 3 by omega]
        rw [if_neg (by omega), HX.out] at HR HV
        have hvr := HV.out
        go_wp2_with fail
        refine (HL.out _).mono ?_
        rintro e w' ⟨rfl, rfl⟩
        go_wp2_with fail
        refine (bounds3_calls (s.extract at_ (at_ + 3)) (by simp; omega) _).mono ?_
        rintro e w1 ⟨rfl, hb1⟩
        have hbf := hb.trans (hb1.mono hb.size)
        generalize (bnd (s.extract at_ (at_ + 3)).data.toList 3 3).1 = lo at *
        generalize (bnd (s.extract at_ (at_ + 3)).data.toList 3 3).2 = hi at *
        go_wp2
        go_ret3
        exact ⟨KEY.out _ _ _ HR.out, hbf⟩
end Go.Proofs.YtdgcdjpjnhlihaaGreatDoor
set_option linter.unusedVariables false
namespace Go.Proofs.YtdgcdjpjnhlihaaGreatDoor
open Go.RowKit Go.Shelf

theorem valid_pc (l : List UInt8) (h : l ≠ []) : Lib.validD l = if (pc l).2 then Lib.validD (l.drop (pc l).1) else false := by
  rw [Lib.validD_step l h]
  cases hp : (pc l).2 with
  | true =>
    have hN := pc_N l h
    have hp' := hp
    rw [hN] at hp'
    obtain ⟨g1, g2, _⟩ := pcN_yes _ _ _ _ _ (l.getD 0 0).toNat_lt (l.getD 1 0).toNat_lt (l.getD 2 0).toNat_lt (l.getD 3 0).toNat_lt hp'
    rw [← hN] at g2
    rw [← Lib.decodeL_N] at g1 g2
    rw [if_neg (fun e => g1 (Prod.ext e.1 e.2)), g2, if_pos rfl]
  | false =>
    rw [(pc_no l h hp).2, if_pos ⟨rfl, rfl⟩, if_neg (by simp)]

end Go.Proofs.YtdgcdjpjnhlihaaGreatDoor
