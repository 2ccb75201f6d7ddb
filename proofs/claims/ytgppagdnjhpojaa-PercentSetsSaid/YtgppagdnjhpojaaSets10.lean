/-
  The walk of lacunalaw10.PercentSets: it returns true, whatever the texts and the set. The condition: the library's variable MaxLen holds some number.
-/
import Derived.Test.YtgppagdnjhpojaaBack10
set_option linter.unusedVariables false
namespace Go.Proofs.Ytgppagdnjhpojaa
open Go.RowKit

def pairsL : List Int := [0, 1, 0, 2, 2, 3, 2, 4, 4, 5, 5, 6]
theorem pairs_cell (w : World) (k : Nat) (h : k < 12) : (w.alloc (.cells #[.int .u8 0, .int .u8 1, .int .u8 0, .int .u8 2, .int .u8 2, .int .u8 3, .int .u8 2, .int .u8 4, .int .u8 4, .int .u8 5, .int .u8 5, .int .u8 6] 24)).cell? ⟨w.heap.size, k, none⟩ = some (.int .u8 (pairsL.getD k 0)) := by
  rw [Lib.cell_of_heap (heap_alloc_new w _)]
  match k, h with
  | 0, _ | 1, _ | 2, _ | 3, _ | 4, _ | 5, _ | 6, _ | 7, _ | 8, _ | 9, _ | 10, _ | 11, _ => rfl
theorem pairs_in (m : Nat) (h : m < 6) : (pairsL.getD (2 * m) 0, pairsL.getD (2 * m + 1) 0) ∈ within ∧ 0 ≤ pairsL.getD (2 * m) 0 ∧ pairsL.getD (2 * m) 0 < 256 ∧ 0 ≤ pairsL.getD (2 * m + 1) 0 ∧ pairsL.getD (2 * m + 1) 0 < 256 := by
  have key : ∀ m : Fin 6, (pairsL.getD (2 * m.1) 0, pairsL.getD (2 * m.1 + 1) 0) ∈ within ∧ 0 ≤ pairsL.getD (2 * m.1) 0 ∧ pairsL.getD (2 * m.1) 0 < 256 ∧ 0 ≤ pairsL.getD (2 * m.1 + 1) 0 ∧ pairsL.getD (2 * m.1 + 1) 0 < 256 := by decide
  exact key ⟨m, h⟩

set_option maxRecDepth 100000 in
set_option maxHeartbeats 1000000 in
theorem sets_walk (s s2 : ByteArray) (set : Int) (w : World) (hs : s.size ≤ maxLen) (hs2 : s2.size ≤ maxLen) (g0 : 0 ≤ set) (g1' : set ≤ 255) (hsh : Sh w) :
    Calls Try.prog 6 #[.string s, .string s2, .int .u8 set] w fun e w' => e = .returned (.bool true) ∧ Below w.heap.size w w' := by
  unfold maxLen at hs hs2
  have g1 : set < 256 := by omega
  clear g1'
  have HS := Lib.hid hsh
  clear hsh
  by_cases hlen : s.size ≤ 16384
  · have hl' : (s.size : Int) ≤ 16384 := by omega
    by_cases hlen2 : s2.size ≤ 16384
    · have hl2' : (s2.size : Int) ≤ 16384 := by omega
      go_enter Try.func6, Try.ntmps6
      go_wp2_with fail
      refine (works_calls _ HS.out).mono ?_
      rintro e w1 ⟨rfl, hb1⟩
      have HC : Hid (∀ k, k < 12 → _) := fun k h => pairs_cell w1 k h
      go_wp2_with fail
      go_loop [9, 10] (fun i _ => ∃ k : Nat, k ≤ 256 ∧ i = .int .i64 k) (fun i _ => 256 - (intOf i).toNat)
      case atStart => exact ⟨0, Nat.zero_le _, rfl⟩
      case round =>
        obtain ⟨c, hk, rfl⟩ := hrel
        by_cases hlt : c < 256
        · have hki : (c : Int) < 256 := by omega
          go_wp2_with fail
          go_loop [10] (fun i => ∃ m : Nat, m ≤ 6 ∧ i = .int .i64 (2 * m : Nat)) (fun i => 12 - (intOf i).toNat)
          case atStart => exact ⟨0, Nat.zero_le _, rfl⟩
          case round =>
            obtain ⟨m, hm, rfl⟩ := hrel
            by_cases hm6 : m < 6
            · obtain ⟨q1, q2, q3, q4, q5⟩ := pairs_in m hm6
              have HW := Lib.hid (pin_within c hlt _ q1)
              have hc0 := HC.out (2 * m) (by omega)
              have hc1 := HC.out (2 * m + 1) (by omega)
              clear q1
              generalize pairsL.getD (2 * m) 0 = pa at hc0 HW q2 q3
              generalize pairsL.getD (2 * m + 1) 0 = pb at hc1 HW q4 q5
              have hm12 : (2 * m : Int) + 1 < 12 := by omega
              by_cases hp : pin c pa = true
              · have hp2 : pin c pb = true := HW.out hp
                go_wp2_with fail
                refine (in_calls c pa _ (by omega) (by omega) q2 q3).mono ?_
                rw [hp]
                rintro e w2 ⟨rfl, rfl⟩
                go_wp2_with fail
                refine (in_calls c pb _ (by omega) (by omega) q4 q5).mono ?_
                rw [hp2]
                rintro e w2 ⟨rfl, rfl⟩
                go_wp2
                go_round
                case rel => exact ⟨m + 1, by omega, by go_num⟩
                case measure => simp [intOf]; omega
              · have hp2 : pin c pa = false := by simpa using hp
                clear hp
                go_wp2_with fail
                refine (in_calls c pa _ (by omega) (by omega) q2 q3).mono ?_
                rw [hp2]
                rintro e w2 ⟨rfl, rfl⟩
                go_wp2
                go_round
                case rel => exact ⟨m + 1, by omega, by go_num⟩
                case measure => simp [intOf]; omega
            · have hm12 : 12 ≤ (2 * m : Int) := by omega
              go_wp2
              go_round
              case rel => exact ⟨c + 1, by omega, by go_num⟩
              case measure => simp [intOf]; omega
        · have hcl : (s ++ s2).size ≤ 1099511627776 := by simp; omega
          go_wp2_with fail
          refine (encode_ex (s ++ s2) set _ hcl g0 g1).mono ?_
          rintro e w2 ⟨t, rfl, ht, hb2⟩
          have hb2' := (hb1.alloc hb1.size (.cells #[.int .u8 0, .int .u8 1, .int .u8 0, .int .u8 2, .int .u8 2, .int .u8 3, .int .u8 2, .int .u8 4, .int .u8 4, .int .u8 5, .int .u8 5, .int .u8 6] 24)).trans (hb2.mono (by have := hb1.size; simp; omega))
          clear hb1 hb2 HC
          go_wp2_with fail
          refine (encode_ex s set _ (by omega) g0 g1).mono ?_
          rintro e w3 ⟨t1, rfl, ht1, hb3⟩
          have hb3' := hb2'.trans (hb3.mono hb2'.size)
          clear hb2' hb3
          go_wp2_with fail
          refine (encode_ex s2 set _ (by omega) g0 g1).mono ?_
          rintro e w4 ⟨t2, rfl, ht2, hb4⟩
          have hb4' := hb3'.trans (hb4.mono hb3'.size)
          clear hb3' hb4
          have hsum : t1.size + t2.size ≤ 98304 := by have := len_of_enc ht1; have := len_of_enc ht2; omega
          obtain rfl : t = t1 ++ t2 := by
            rw [← Lib.mk_data t, ht.out, ← Lib.mk_data (t1 ++ t2)]
            simp [ht1.out, ht2.out, enc_append]
          go_wp2
          go_ret
          exact ⟨rfl, hb4'⟩
    · have hl2' : (16384 : Int) < (s2.size : Int) := by omega
      go_enter Try.func6, Try.ntmps6
      go_wp2_with fail
      refine (works_calls _ HS.out).mono ?_
      rintro e w1 ⟨rfl, hb1⟩
      go_wp2
      go_ret
      exact ⟨rfl, hb1⟩
  · have hl' : (16384 : Int) < (s.size : Int) := by omega
    go_enter Try.func6, Try.ntmps6
    go_wp2_with fail
    refine (works_calls _ HS.out).mono ?_
    rintro e w1 ⟨rfl, hb1⟩
    go_wp2
    go_ret
    exact ⟨rfl, hb1⟩
end Go.Proofs.Ytgppagdnjhpojaa
