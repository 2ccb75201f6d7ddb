/-
  The walk of lacunalaw10.PercentDoes: it returns true, whatever the text and the set. The condition: the library's variable MaxLen holds some number.
-/
import Derived.Test.YtgppagdnjhpojaaLaw10
set_option linter.unusedVariables false
namespace Go.Proofs.Ytgppagdnjhpojaa
open Go.RowKit

theorem eq_true_of (l : List UInt8) : ((⟨l.toArray⟩ : ByteArray).toList == (⟨l.toArray⟩ : ByteArray).toList) = true := by simp

set_option maxRecDepth 100000 in
set_option maxHeartbeats 1000000 in
theorem does_walk (s : ByteArray) (set : Int) (w : World) (hs : s.size ≤ maxLen) (g0 : 0 ≤ set) (g1' : set ≤ 255) (hsh : Sh w) :
    Calls Try.prog 3 #[.string s, .int .u8 set] w fun e w' => e = .returned (.bool true) ∧ Below w.heap.size w w' := by
  unfold maxLen at hs
  have g1 : set < 256 := by omega
  clear g1'
  have HS := Lib.hid hsh
  clear hsh
  by_cases hlen : s.size ≤ 16384
  · have hl' : (s.size : Int) ≤ 16384 := by omega
    go_enter Try.func3, Try.ntmps3
    go_wp2_with fail
    refine (works_calls _ HS.out).mono ?_
    rintro e w1 ⟨rfl, hb1⟩
    go_wp2_with fail
    go_loop [6] (fun i => ∃ k : Nat, k ≤ 256 ∧ i = .int .i64 k) (fun i => 256 - (intOf i).toNat)
    case atStart => exact ⟨0, Nat.zero_le _, rfl⟩
    case round =>
      obtain ⟨k, hk, rfl⟩ := hrel
      by_cases hlt : k < 256
      · have hki : (k : Int) < 256 := by omega
        go_wp2_with fail
        refine (in_calls k set _ (by omega) (by omega) g0 g1).mono ?_
        rintro e w2 ⟨rfl, rfl⟩
        go_wp2_with fail
        refine (refIn_calls k set _ (by omega) (by omega) g0 g1).mono ?_
        rintro e w2 ⟨rfl, rfl⟩
        go_wp2
        go_round
        case rel => exact ⟨k + 1, by omega, by go_num⟩
        case measure => simp [intOf]; omega
      · go_wp2_with fail
        refine (encode_calls s set _ (by omega) g0 g1).mono ?_
        rintro e w2 ⟨rfl, hb2⟩
        have hb2' := hb1.trans (hb2.mono hb1.size)
        clear hb1 hb2
        go_wp2_with fail
        refine (refEncode_calls s set _ (by omega) g0 g1).mono ?_
        rintro e w3 ⟨rfl, hb3⟩
        have hb3' := hb2'.trans (hb3.mono hb2'.size)
        clear hb2' hb3
        have he := eq_true_of (enc set s.data.toList)
        go_wp2_with fail
        refine (decode_calls s _ (by omega) (HS.out.below hb3')).mono ?_
        rintro e w4 ⟨rfl, hb4⟩
        have hb4' := hb3'.trans (hb4.mono hb3'.size)
        clear hb3' hb4
        go_wp2_with fail
        refine (refDecode_calls s _ (by omega)).mono ?_
        rintro e w5 ⟨rfl, hb5⟩
        have hb5' := hb4'.trans (hb5.mono hb4'.size)
        clear hb4' hb5
        have he2 := eq_true_of (dec s.data.toList)
        go_wp2
        go_ret
        exact ⟨rfl, hb5'⟩
  · have hl' : (16384 : Int) < (s.size : Int) := by omega
    go_enter Try.func3, Try.ntmps3
    go_wp2_with fail
    refine (works_calls _ HS.out).mono ?_
    rintro e w1 ⟨rfl, hb1⟩
    go_wp2
    go_ret
    exact ⟨rfl, hb1⟩
end Go.Proofs.Ytgppagdnjhpojaa
