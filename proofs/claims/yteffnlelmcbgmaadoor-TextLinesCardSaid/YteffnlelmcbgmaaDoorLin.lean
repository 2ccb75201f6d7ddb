/-
  The walk of lacunalaw01.TextLines: it returns true. The condition: the tables and the library's shape stand.
-/
import Derived.Test.YteffnlelmcbgmaaDoorWrc
import Derived.Test.YteffnlelmcbgmaaDoorRdc
import Derived.Test.YteffnlelmcbgmaaDoorLow
import Derived.Test.YteffnlelmcbgmaaDoorSpc
set_option linter.unusedVariables false
namespace Go.Proofs.YteffnlelmcbgmaaDoor
open Go.RowKit Go.Shelf

set_option maxRecDepth 100000 in
set_option maxHeartbeats 2000000 in
theorem lines_walk (b : ByteArray) (r : Int) (w : World) (g0 : -2147483648 ≤ r) (g1 : r ≤ 2147483647) (hsh : Sh w) (hT : Tabs w) :
    Calls Tryd.prog 6 #[.string b, .int .i32 r] w fun e w' => e = .returned (.bool true) ∧ Below w.heap.size w w' := by
  have HS := Lib.hid hsh
  have HT := Lib.hid hT
  clear hsh hT
  go_enter Tryd.func6, Tryd.ntmps6
  go_wp2_with fail
  refine (works_calls _ HS.out HT.out).mono ?_
  rintro e w1 ⟨rfl, hb1⟩
  by_cases hb : 16384 < b.size
  · have hb' : (16384 : Int) < b.size := by omega
    go_wp2
    go_ret
    exact ⟨rfl, hb1⟩
  have hb' : ¬ ((16384 : Int) < b.size) := by omega
  obtain ⟨n, hn⟩ : ∃ t : ByteArray, (⟨(nrm b.data.toList).toArray⟩ : ByteArray) = t := ⟨_, rfl⟩
  obtain ⟨i, hi⟩ : ∃ t : ByteArray, (⟨(inp b.data.toList).toArray⟩ : ByteArray) = t := ⟨_, rfl⟩
  obtain ⟨l, hl⟩ : ∃ t : ByteArray, (⟨(lwr b.data.toList).toArray⟩ : ByteArray) = t := ⟨_, rfl⟩
  have HN : Hid (∀ w, Sh w → Calls Tryd.prog 17 #[.string b] w fun e w' => e = .returned (.string n) ∧ Below w.heap.size w w') := by rw [← hn]; exact fun w h => normal_calls b (by omega) w h
  have HI : Hid (∀ w, Sh w → Tabs w → Calls Tryd.prog 12 #[.string b] w fun e w' => e = .returned (.string i) ∧ Below w.heap.size w w') := by rw [← hi]; exact fun w h h2 => input_calls b (by omega) w h h2
  have HL : Hid (∀ w, Calls Tryd.prog 16 #[.string b] w fun e w' => e = .returned (.string l) ∧ Below w.heap.size w w') := by rw [← hl]; exact fun w => lower_calls b (by omega) w
  have HNR : Hid (∀ w, Calls Tryd.prog 18 #[.string b] w fun e w' => e = .returned (.string n) ∧ Below w.heap.size w w') := by rw [← hn]; exact fun w => normalR_calls b (by omega) w
  have HIR : Hid (∀ w, Calls Tryd.prog 19 #[.string b] w fun e w' => e = .returned (.string i) ∧ Below w.heap.size w w') := by rw [← hi]; exact fun w => inputR_calls b (by omega) w
  have HLR : Hid (∀ w, Calls Tryd.prog 20 #[.string b] w fun e w' => e = .returned (.string l) ∧ Below w.heap.size w w') := by rw [← hl]; exact fun w => refLower_calls b (by omega) w
  clear hn hi hl
  go_wp2_with fail
  refine (HN.out _ (HS.out.below hb1)).mono ?_
  rintro e w2 ⟨rfl, hb2⟩
  have hb2' := hb1.trans (hb2.mono hb1.size)
  clear hb1 hb2
  go_wp2_with fail
  refine (HI.out _ (HS.out.below hb2') (HT.out.below hb2')).mono ?_
  rintro e w3 ⟨rfl, hb3⟩
  have hb3' := hb2'.trans (hb3.mono hb2'.size)
  clear hb2' hb3
  go_wp2_with fail
  refine (HL.out _).mono ?_
  rintro e w4 ⟨rfl, hb4⟩
  have hb4' := hb3'.trans (hb4.mono hb3'.size)
  clear hb3' hb4
  go_wp2_with fail
  refine (HNR.out _).mono ?_
  rintro e w5 ⟨rfl, hb5⟩
  have hb5' := hb4'.trans (hb5.mono hb4'.size)
  clear hb4' hb5
  go_wp2_with fail
  refine (HIR.out _).mono ?_
  rintro e w6 ⟨rfl, hb6⟩
  have hb6' := hb5'.trans (hb6.mono hb5'.size)
  clear hb5' hb6
  go_wp2_with fail
  refine (HLR.out _).mono ?_
  rintro e w7 ⟨rfl, hb7⟩
  have hb7' := hb6'.trans (hb7.mono hb6'.size)
  clear hb6' hb7
  go_wp2_with fail
  refine (space_calls r _).mono ?_
  rintro e w' ⟨rfl, rfl⟩
  go_wp2_with fail
  refine (spaceR_calls r _).mono ?_
  rintro e w' ⟨rfl, rfl⟩
  go_wp2_with fail
  refine (alpha_calls r _ g0 g1).mono ?_
  rintro e w' ⟨rfl, rfl⟩
  go_wp2_with fail
  refine (alphaR_calls r _).mono ?_
  rintro e w' ⟨rfl, rfl⟩
  go_wp2_with fail
  refine (digit_calls r _).mono ?_
  rintro e w' ⟨rfl, rfl⟩
  go_wp2_with fail
  refine (digitR_calls r _).mono ?_
  rintro e w' ⟨rfl, rfl⟩
  go_wp2_with fail
  refine (hex_calls r _ g0 g1).mono ?_
  rintro e w' ⟨rfl, rfl⟩
  go_wp2_with fail
  refine (refHex_calls r _ g0 g1).mono ?_
  rintro e w' ⟨rfl, rfl⟩
  go_wp2
  go_ret
  exact ⟨rfl, hb7'⟩
end Go.Proofs.YteffnlelmcbgmaaDoor
