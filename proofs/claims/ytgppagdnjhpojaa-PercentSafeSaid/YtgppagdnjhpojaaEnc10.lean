/-
  Contracts of percent.Encode and lacunaref10.Encode. The condition: the text takes at most 2 to the 40th bytes.
-/
import Derived.Test.YtgppagdnjhpojaaRet
import Derived.Test.YtgppagdnjhpojaaPct
import Derived.Test.YtgppagdnjhpojaaBld
import Derived.Test.YtgppagdnjhpojaaByt
import Derived.Deep.RegionWith
import Derived.Deep.RegionLaw
set_option linter.unusedVariables false
namespace Go.Proofs.Ytgppagdnjhpojaa
open Go.RowKit

theorem digit_at (n : Nat) (h : n < 16) (h' : n < (⟨#[48, 49, 50, 51, 52, 53, 54, 55, 56, 57, 65, 66, 67, 68, 69, 70]⟩ : ByteArray).size) : (⟨#[48, 49, 50, 51, 52, 53, 54, 55, 56, 57, 65, 66, 67, 68, 69, 70]⟩ : ByteArray)[n] = hexd n := by
  have key : ∀ m : Fin 16, (⟨#[48, 49, 50, 51, 52, 53, 54, 55, 56, 57, 65, 66, 67, 68, 69, 70]⟩ : ByteArray)[m.1]'m.2 = hexd m.1 := by decide +kernel
  exact key ⟨n, h⟩
theorem index_digit (x : Int) (n : Nat) (hx : x = n) (hn : n < 16) (w : World) : (Instr.index 9 (.string ⟨#[48, 49, 50, 51, 52, 53, 54, 55, 56, 57, 65, 66, 67, 68, 69, 70]⟩) (.int .u8 x)).run Try.prog w = .ok (.int .u8 (hexd n).toNat) w := by
  subst hx
  rw [run_index_string w _ _ _ _ Try.underlying9, dif_pos ⟨by omega, by show (n : Int) < 16; omega⟩]
  simp only [Int.toNat_natCast]
  rw [digit_at n hn]
theorem and15 (n : Int) : bits .and .u8 n 15 = n % 16 := by
  have h : (BitVec.ofInt 8 15).toNat = 2 ^ 4 - 1 := by decide
  have key : (BitVec.ofInt 8 n &&& BitVec.ofInt 8 15).toNat = (n % ((2 ^ 8 : Nat) : Int)).toNat % 2 ^ 4 := by
    rw [BitVec.toNat_and, BitVec.toNat_ofInt, h, Nat.and_two_pow_sub_one_eq_mod]
  show IntKind.u8.wrap ((BitVec.ofInt 8 n &&& BitVec.ofInt 8 15).toNat : Nat) = n % 16
  rw [key]
  simp [IntKind.wrap, IntKind.bits, IntKind.signed]
  omega
theorem index_hi (c : UInt8) (w : World) : (Instr.index 9 (.string ⟨#[48, 49, 50, 51, 52, 53, 54, 55, 56, 57, 65, 66, 67, 68, 69, 70]⟩) (.int .u8 ((c.toNat : Int) / 16))).run Try.prog w = .ok (.int .u8 (hexd (c.toNat / 16)).toNat) w := by
  have hc := c.toNat_lt
  exact index_digit _ _ (by omega) (by omega) w
theorem index_lo (c : UInt8) (w : World) : (Instr.index 9 (.string ⟨#[48, 49, 50, 51, 52, 53, 54, 55, 56, 57, 65, 66, 67, 68, 69, 70]⟩) (.int .u8 (bits .and .u8 (c.toNat : Int) 15))).run Try.prog w = .ok (.int .u8 (hexd (c.toNat % 16)).toNat) w := by
  have hc := c.toNat_lt
  rw [and15]
  exact index_digit _ _ (by omega) (by omega) w
theorem index_lo' (c : UInt8) (w : World) : (Instr.index 9 (.string ⟨#[48, 49, 50, 51, 52, 53, 54, 55, 56, 57, 65, 66, 67, 68, 69, 70]⟩) (.int .u8 ((c.toNat : Int) % 16))).run Try.prog w = .ok (.int .u8 (hexd (c.toNat % 16)).toNat) w := by
  have hc := c.toNat_lt
  exact index_digit _ _ (by omega) (by omega) w
theorem three_cells (w : World) (a b c : Value) : ∀ j u, [a, b, c][j]? = some u → ((w.alloc (.cells #[a, b, c] 5)).drew).cell? ((⟨w.heap.size, 0, none⟩ : Addr).add j) = some u := by
  intro j u h
  have hb := heap_alloc_new w (.cells #[a, b, c] 5)
  show World.cell? (w.alloc (.cells #[a, b, c] 5)) _ = _
  match j, h with
  | 0, h | 1, h | 2, h => simp at h; subst h; simp [Addr.add]
theorem u8_nat (c : UInt8) : ((c.toNat : Int)).toNat.toUInt8 = c := by simp

set_option maxRecDepth 100000 in
set_option maxHeartbeats 1000000 in
theorem encode_calls (s : ByteArray) (set : Int) (w : World) (hs : s.size ≤ 1099511627776) (g0 : 0 ≤ set) (g1 : set < 256) :
    Calls Try.prog 10 #[.string s, .int .u8 set] w fun e w' => e = .returned (.string ⟨(enc set s.data.toList).toArray⟩) ∧ Below w.heap.size w w' := by
  go_enter Try.func10, Try.ntmps10
  go_wp2
  go_loopw [10] (fun i wr => ∃ k : Nat, k ≤ s.size ∧ i = .int .i64 k ∧ Bd w.heap.size w.heap.size (enc set (s.data.toList.take k)) wr ∧ Below w.heap.size w wr) (fun i _ => s.size - (intOf i).toNat)
  case atStart => exact ⟨0, Nat.zero_le _, rfl, Bd.fresh w, (Below.refl _ w).alloc (Nat.le_refl _) _⟩
  case round =>
    obtain ⟨k, hk, rfl, hB, hb⟩ := hrel
    have hsz := hb.size
    have hl := enc_le set (s.data.toList.take k)
    have hl2 : (s.data.toList.take k).length ≤ k := List.length_take_le _ _
    by_cases hlt : k < s.size
    · have hc1 : (s[k].toNat : Int) < 256 := by have := s[k].toNat_lt; omega
      have HS : Hid (enc set (s.data.toList.take (k + 1)) = enc set (s.data.toList.take k) ++ encB set s[k]) := by unfold Hid; rw [take_snoc s k hlt, enc_snoc]
      by_cases hp : pin s[k].toNat set = true
      · have HE := Lib.hid (encB_in set s[k] hp)
        go_wp2_with (go_at_call 8; refine (in_calls _ _ _ (by omega) hc1 g0 g1).mono ?_; rintro e w' ⟨rfl, rfl⟩)
        have hx1 := index_hi s[k]
        have hx2 := index_lo s[k]
        have hlt0 := hB.lt
        generalize hd1 : hexd (s[k].toNat / 16) = d1 at hx1 HE
        generalize hd2 : hexd (s[k].toNat % 16) = d2 at hx2 HE
        clear hd1 hd2
        have HB2 : ∀ o, Bd w.heap.size w.heap.size (enc set (s.data.toList.take k)) (wr.alloc o).drew := fun o => hB.alloc o
        have HN := three_cells wr (.int .u8 37) (.int .u8 d1.toNat) (.int .u8 d2.toNat)
        go_region_with (go_at_call 17; go_must (refine (write_calls w.heap.size w.heap.size _ ⟨wr.heap.size, 0, none⟩ 3 3 [.int .u8 37, .int .u8 d1.toNat, .int .u8 d2.toNat] _ (HB2 _) rfl HN (by simp; omega) (by simp [Value.oneCell']) (by rw [Lib.byteCells_length]; omega) (by simp; omega)).mono ?_); rintro e w1 ⟨rfl, hB1, hb1⟩)
        all_goals
          go_wp2
          go_roundw
          case rel =>
            refine ⟨k + 1, by omega, by go_num, ?_, (hb.trans ((Below.refl _ wr).alloc (by omega) _).drew).trans hb1⟩
            rw [HS.out, HE.out]
            show Lib.IsBuilder _ _ _ _ (Lib.byteCells (_ ++ _)) _
            rw [Lib.byteCells_append]
            exact hB1
          case measure => simp [intOf]; omega
      · have hp' : pin s[k].toNat set = false := by simpa using hp
        have HE := Lib.hid (encB_out set s[k] hp')
        clear hp
        go_wp2_with (go_at_call 8; refine (in_calls _ _ _ (by omega) hc1 g0 g1).mono ?_; rintro e w' ⟨rfl, rfl⟩)
        refine (writeByte_calls w.heap.size w.heap.size _ _ _ hB (by omega) (by omega) (by omega) hc1).mono ?_
        rintro e w1 ⟨rfl, hB1, hb1⟩
        go_wp2
        go_roundw
        case rel => exact ⟨k + 1, by omega, by go_num, by rw [HS.out, HE.out]; simpa using hB1, hb.trans hb1⟩
        case measure => simp [intOf]; omega
    · go_wp2_with fail
      refine (string_calls w.heap.size w.heap.size _ _ hB (by omega)).mono ?_
      rintro e w1 ⟨rfl, hb1⟩
      go_wp2
      go_ret
      exact ⟨ret_str (by rw [List.take_of_length_le (by simp; omega)]), hb.trans hb1⟩

theorem wrap_hi (c : UInt8) : IntKind.u8.wrap ((c.toNat : Int) / 16) = (c.toNat : Int) / 16 := by
  have hc := c.toNat_lt
  simp [IntKind.wrap, IntKind.bits, IntKind.signed]; omega
theorem wrap_lo (c : UInt8) : IntKind.u8.wrap ((c.toNat : Int) % 16) = (c.toNat : Int) % 16 := by
  have hc := c.toNat_lt
  simp [IntKind.wrap, IntKind.bits, IntKind.signed]; omega
theorem tmod_lo (c : UInt8) : (c.toNat : Int).tmod 16 = (c.toNat : Int) % 16 := by
  rw [Int.tmod_eq_emod_of_nonneg (by omega)]

set_option maxRecDepth 100000 in
set_option maxHeartbeats 1000000 in
theorem refEncode_calls (s : ByteArray) (set : Int) (w : World) (hs : s.size ≤ 1099511627776) (g0 : 0 ≤ set) (g1 : set < 256) :
    Calls Try.prog 11 #[.string s, .int .u8 set] w fun e w' => e = .returned (.string ⟨(enc set s.data.toList).toArray⟩) ∧ Below w.heap.size w w' := by
  go_enter Try.func11, Try.ntmps11
  go_wp2
  go_loopw [5, 6] (fun v i wr => ∃ k : Nat, k ≤ s.size ∧ i = .int .i64 k ∧ Own w.heap.size v (enc set (s.data.toList.take k)) wr ∧ Below w.heap.size w wr) (fun _ i _ => s.size - (intOf i).toNat)
  case atStart => exact ⟨0, Nat.zero_le _, rfl, Own.nil _ _, Below.refl _ w⟩
  case round =>
    obtain ⟨k, hk, rfl, hB, hb⟩ := hrel
    have hsz := hb.size
    have hl := enc_le set (s.data.toList.take k)
    have hl2 : (s.data.toList.take k).length ≤ k := List.length_take_le _ _
    by_cases hlt : k < s.size
    · have hc1 : (s[k].toNat : Int) < 256 := by have := s[k].toNat_lt; omega
      have HS : Hid (enc set (s.data.toList.take (k + 1)) = enc set (s.data.toList.take k) ++ encB set s[k]) := by unfold Hid; rw [take_snoc s k hlt, enc_snoc]
      by_cases hp : pin s[k].toNat set = true
      · have HE := Lib.hid (encB_in set s[k] hp)
        go_wp2_with (go_at_call 9; refine (refIn_calls _ _ _ (by omega) hc1 g0 g1).mono ?_; rintro e w' ⟨rfl, rfl⟩)
        have hx1 := index_hi s[k]
        have hx2 := index_lo' s[k]
        have hw1 := wrap_hi s[k]
        have hw2 := wrap_lo s[k]
        have hw3 := tmod_lo s[k]
        generalize hd1 : hexd (s[k].toNat / 16) = d1 at hx1 HE
        generalize hd2 : hexd (s[k].toNat % 16) = d2 at hx2 HE
        clear hd1 hd2
        have HN := new_cells wr [37, d1, d2]
        go_region_law (refine app_step rfl _ _ rfl w.heap.size _ _ rfl (hB.alloc _) ⟨wr.heap.size, 0, none⟩ 3 3 [37, d1, d2] rfl rfl HN (by omega) (by simp; omega) ?_; intro v' w1 hB1 hg1)
        all_goals
          clear hw1 hw2 hw3 hx1 hx2 HN
          go_wp2
          go_roundw
          case rel => exact ⟨k + 1, by omega, by go_num, by rw [HS.out, HE.out]; exact hB1, (hB.alloc _).drew.below (hb.alloc (by omega) _).drew (by simp; omega) hg1⟩
          case measure => simp [intOf]; omega
      · have hp' : pin s[k].toNat set = false := by simpa using hp
        have HE := Lib.hid (encB_out set s[k] hp')
        clear hp
        have HN := new_cells wr [s[k]]
        go_wp2_with (first | (go_at_call 9; refine (refIn_calls _ _ _ (by omega) hc1 g0 g1).mono ?_; rintro e w' ⟨rfl, rfl⟩) | (at_builtin; refine app_list rfl _ _ rfl w.heap.size _ _ rfl (hB.alloc _) ⟨wr.heap.size, 0, none⟩ 1 1 [s[k]] rfl rfl HN (by omega) (by simp; omega) ?_; intro v' w1 hB1 hg1))
        go_wp2
        go_roundw
        case rel => exact ⟨k + 1, by omega, by go_num, by rw [HS.out, HE.out]; exact hB1, (hB.alloc _).below (hb.alloc (by omega) _) (by simp; omega) hg1⟩
        case measure => simp [intOf]; omega
    · have hconv := hB.text
      go_wp2
      go_ret
      exact ⟨ret_str (by rw [List.take_of_length_le (by simp; omega)]), hb⟩
end Go.Proofs.Ytgppagdnjhpojaa
