/-
  The walks of lacunalaw10.PercentBack and PercentSafe: each returns true, whatever the text and the set. The condition: the library's variable MaxLen holds some number.
-/
import Derived.Test.YtgppagdnjhpojaaLaw10
import Derived.Test.YtgppagdnjhpojaaLawm10
set_option linter.unusedVariables false
namespace Go.Proofs.Ytgppagdnjhpojaa
open Go.RowKit

/-- The two contracts with the texts as variables. -/
theorem encode_ex (s : ByteArray) (set : Int) (w : World) (hs : s.size ≤ 1099511627776) (g0 : 0 ≤ set) (g1 : set < 256) :
    Calls Try.prog 10 #[.string s, .int .u8 set] w fun e w' => ∃ t : ByteArray, e = .returned (.string t) ∧ Hid (t.data.toList = enc set s.data.toList) ∧ Below w.heap.size w w' :=
  (encode_calls s set w hs g0 g1).mono fun e w' h => ⟨_, h.1, rfl, h.2⟩
theorem decode_ex (s r : ByteArray) (w : World) (hs : s.size < 4294967281) (hsh : Sh w) (hr : Hid (dec s.data.toList = r.data.toList)) :
    Calls Try.prog 12 #[.string s] w fun e w' => e = .returned (.string r) ∧ Below w.heap.size w w' :=
  (decode_calls s w hs hsh).mono fun e w' h => ⟨by rw [h.1, hr.out, Lib.mk_data], h.2⟩

theorem len_of_enc {t s : ByteArray} {set : Int} (h : Hid (t.data.toList = enc set s.data.toList)) : t.size ≤ 3 * s.size := by
  have := enc_le set s.data.toList
  rw [← h.out] at this
  simpa using this

set_option maxRecDepth 100000 in
set_option maxHeartbeats 1000000 in
theorem back_walk (s : ByteArray) (set : Int) (w : World) (hs : s.size ≤ maxLen) (g0 : 0 ≤ set) (g1' : set ≤ 255) (hsh : Sh w) :
    Calls Try.prog 4 #[.string s, .int .u8 set] w fun e w' => e = .returned (.bool true) ∧ Below w.heap.size w w' := by
  unfold maxLen at hs
  have g1 : set < 256 := by omega
  clear g1'
  have HS := Lib.hid hsh
  clear hsh
  by_cases hlen : s.size ≤ 16384
  · have hl' : (s.size : Int) ≤ 16384 := by omega
    go_enter Try.func4, Try.ntmps4
    go_wp2_with fail
    refine (works_calls _ HS.out).mono ?_
    rintro e w1 ⟨rfl, hb1⟩
    go_wp2_with fail
    refine (encode_ex s 6 _ (by omega) (by omega) (by omega)).mono ?_
    rintro e w2 ⟨t, rfl, ht, hb2⟩
    have hb2' := hb1.trans (hb2.mono hb1.size)
    clear hb1 hb2
    have htl := len_of_enc ht
    go_wp2_with fail
    refine (decode_ex t s _ (by omega) (HS.out.below hb2') (by unfold Hid; rw [ht.out, dec_enc6])).mono ?_
    rintro e w3 ⟨rfl, hb3⟩
    have hb3' := hb2'.trans (hb3.mono hb2'.size)
    clear hb2' hb3 htl ht
    go_wp2_with fail
    go_loop [6] (fun i => ∃ k : Nat, k ≤ s.size ∧ i = .int .i64 k ∧ Hid (∀ j (h : j < s.size), j < k → s[j] ≠ 37)) (fun i => s.size - (intOf i).toNat)
    case atStart => exact ⟨0, Nat.zero_le _, rfl, fun j _ h => absurd h (Nat.not_lt_zero _)⟩
    case round =>
      obtain ⟨k, hk, rfl, HN⟩ := hrel
      by_cases hlt : k < s.size
      · by_cases hc : s[k] = 37
        · have hcb : ((s[k].toNat : Int) == 37) = true := by rw [hc]; rfl
          have HC := Lib.hid hc
          clear hc
          go_wp2
          go_ret
          exact ⟨rfl, hb3'⟩
        · have hcb : ((s[k].toNat : Int) == 37) = false := by
            have : s[k].toNat ≠ 37 := fun h => hc (UInt8.toNat_inj.1 h)
            exact beq_eq_false_iff_ne.2 (by omega)
          have HC := Lib.hid hc
          clear hc
          go_wp2
          go_round
          case rel =>
            refine ⟨k + 1, by omega, by go_num, fun j h hj => ?_⟩
            rcases Nat.lt_or_ge j k with h' | h'
            · exact HN.out j h h'
            · obtain rfl : j = k := by omega
              exact HC.out
          case measure => simp [intOf]; omega
      · have hnone : Hid ((37 : UInt8) ∉ s.data.toList) := by
          intro hm
          obtain ⟨j, hj, hj2⟩ := List.getElem_of_mem hm
          have hj' : j < s.size := by simpa using hj
          exact HN.out j hj' (by omega) hj2
        clear HN
        go_wp2_with fail
        refine (encode_ex s set _ (by omega) g0 g1).mono ?_
        rintro e w4 ⟨t, rfl, ht, hb4⟩
        have hb4' := hb3'.trans (hb4.mono hb3'.size)
        clear hb3' hb4
        have htl := len_of_enc ht
        go_wp2_with fail
        refine (decode_ex t s _ (by omega) (HS.out.below hb4') (by unfold Hid; rw [ht.out, dec_enc_none _ _ hnone.out])).mono ?_
        rintro e w5 ⟨rfl, hb5⟩
        have hb5' := hb4'.trans (hb5.mono hb4'.size)
        clear hb4' hb5
        go_wp2
        go_ret
        exact ⟨rfl, hb5'⟩
  · have hl' : (16384 : Int) < (s.size : Int) := by omega
    go_enter Try.func4, Try.ntmps4
    go_wp2_with fail
    refine (works_calls _ HS.out).mono ?_
    rintro e w1 ⟨rfl, hb1⟩
    go_wp2
    go_ret
    exact ⟨rfl, hb1⟩

set_option maxRecDepth 100000 in
set_option maxHeartbeats 1000000 in
theorem safe_walk (s : ByteArray) (set : Int) (w : World) (hs : s.size ≤ maxLen) (g0 : 0 ≤ set) (g1' : set ≤ 255) (hsh : Sh w) :
    Calls Try.prog 5 #[.string s, .int .u8 set] w fun e w' => e = .returned (.bool true) ∧ Below w.heap.size w w' := by
  unfold maxLen at hs
  have g1 : set < 256 := by omega
  clear g1'
  have HS := Lib.hid hsh
  clear hsh
  by_cases hlen : s.size ≤ 16384
  · have hl' : (s.size : Int) ≤ 16384 := by omega
    go_enter Try.func5, Try.ntmps5
    go_wp2_with fail
    refine (works_calls _ HS.out).mono ?_
    rintro e w1 ⟨rfl, hb1⟩
    go_wp2_with fail
    refine (encode_ex s set _ (by omega) g0 g1).mono ?_
    rintro e w2 ⟨t, rfl, ht, hb2⟩
    have hb2' := hb1.trans (hb2.mono hb1.size)
    clear hb1 hb2
    have htl := len_of_enc ht
    go_wp2_with fail
    go_loop [7] (fun i => ∃ k : Nat, k ≤ t.size ∧ i = .int .i64 k) (fun i => t.size - (intOf i).toNat)
    case atStart => exact ⟨0, Nat.zero_le _, rfl⟩
    case round =>
      obtain ⟨k, hk, rfl⟩ := hrel
      by_cases hlt : k < t.size
      · have hsafe : safeB set t[k] := by
          apply enc_safe set s.data.toList
          rw [← ht.out]
          exact List.getElem_mem (by simpa using hlt)
        obtain ⟨f1, f2, f3⟩ := hsafe
        have f1' : 32 ≤ (t[k].toNat : Int) := by omega
        have f2' : (t[k].toNat : Int) ≤ 126 := by omega
        by_cases hc : t[k] = 37
        · have hcb : ((t[k].toNat : Int) != 37) = false := by rw [hc]; rfl
          clear hc f3 f1 f2
          go_wp2
          go_round
          case rel => exact ⟨k + 1, by omega, by go_num⟩
          case measure => simp [intOf]; omega
        · have hcb : ((t[k].toNat : Int) != 37) = true := by
            have : t[k].toNat ≠ 37 := fun h => hc (UInt8.toNat_inj.1 h)
            rw [bne_iff_ne]; omega
          have hp := f3.resolve_left hc
          clear hc f3 f1 f2
          go_wp2_with fail
          refine (in_calls t[k].toNat set _ (by omega) (by omega) g0 g1).mono ?_
          rw [hp]
          rintro e w3 ⟨rfl, rfl⟩
          go_wp2
          go_round
          case rel => exact ⟨k + 1, by omega, by go_num⟩
          case measure => simp [intOf]; omega
      · by_cases h6 : set = 6
        · subst h6
          go_wp2_with fail
          refine (encode_ex t 6 _ (by omega) g0 g1).mono ?_
          rintro e w3 ⟨t2, rfl, ht2, hb3⟩
          have hb3' := hb2'.trans (hb3.mono hb2'.size)
          clear hb2' hb3
          by_cases heq : (t2.toList == t.toList) = true
          · go_wp2
            go_ret
            exact ⟨rfl, hb3'⟩
          · have heq' : (t2.toList == t.toList) = false := by simpa using heq
            clear heq
            go_wp2
            go_ret
            exact ⟨rfl, hb3'⟩
        · go_wp2_with fail
          refine (encode_ex t set _ (by omega) g0 g1).mono ?_
          rintro e w3 ⟨t2, rfl, ht2, hb3⟩
          have hb3' := hb2'.trans (hb3.mono hb2'.size)
          clear hb2' hb3
          obtain rfl : t2 = t := by
            rw [← Lib.mk_data t2, ← Lib.mk_data t, ht2.out, ht.out, enc_twice _ _ h6]
          go_wp2
          go_ret
          exact ⟨rfl, hb3'⟩
  · have hl' : (16384 : Int) < (s.size : Int) := by omega
    go_enter Try.func5, Try.ntmps5
    go_wp2_with fail
    refine (works_calls _ HS.out).mono ?_
    rintro e w1 ⟨rfl, hb1⟩
    go_wp2
    go_ret
    exact ⟨rfl, hb1⟩
end Go.Proofs.Ytgppagdnjhpojaa
