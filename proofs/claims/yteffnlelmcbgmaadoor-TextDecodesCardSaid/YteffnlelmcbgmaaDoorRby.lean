/-
  The contract of lacunaref01.Bytes: a code point's bytes. The condition: it is a code point.
-/
import Derived.Test.YteffnlelmcbgmaaDoorByt
import Derived.Test.YteffnlelmcbgmaaDoorRnt
import Derived.Laws.IdiomStrings
set_option linter.unusedVariables false
namespace Go.Proofs.YteffnlelmcbgmaaDoor
open Go.RowKit Go.Shelf

theorem conv_new (w : World) (l : List UInt8) (n : Nat) (hn : n = l.length) (cs : Array Value) (hcs : cs = (Lib.byteCells l).toArray) : (convert 52 9 (.slice (some ⟨w.heap.size, 0, none⟩) n n)).run Tryd.prog (w.alloc (.cells cs 5)) = .ok (.string ⟨l.toArray⟩) (w.alloc (.cells cs 5)) := by
  subst hn hcs
  refine run_convert_bytes_back (P := Tryd.prog) _ 52 9 5 ⟨w.heap.size, 0, none⟩ l.length l Tryd.underlying52 Tryd.underlying5 Tryd.underlying9 ?_
  intro j hj
  refine new_cells w l j _ ?_
  simp [Lib.byteCells, hj]

set_option maxRecDepth 100000 in
set_option maxHeartbeats 2000000 in
theorem bytesR_calls (r : Int) (h : Sc r) (w : World) :
    Calls Tryd.prog 46 #[.int .i32 r] w fun e w' => e = .returned (.string ⟨(Lib.encodeRune r).toArray⟩) ∧ Below w.heap.size w w' := by
  obtain ⟨h0, h1, h2⟩ := h
  by_cases a1 : r < 128
  · have HE : Hid (Lib.encodeRune r = [r.toNat.toUInt8]) := by unfold Hid Lib.encodeRune; rw [Lib.encodeRuneZ_one h0 (by omega)]; rfl
    have hcv := fun w => conv_new w [r.toNat.toUInt8] 1 rfl #[.int .u8 r] (by simp [Lib.byteCells, byte_toNat r h0 (by omega)]; omega)
    have hs1 : ¬ (55296 ≤ r) := by omega
    go_enter Tryd.func46, Tryd.ntmps46
    go_wp2
    go_ret
    exact ⟨by rw [HE.out]; rfl, ((Below.refl _ w).alloc (Nat.le_refl _) _)⟩
  have d64 : r.tdiv 64 = r / 64 := Int.tdiv_eq_ediv_of_nonneg h0
  have m64 : r.tmod 64 = r % 64 := Int.tmod_eq_emod_of_nonneg h0
  have hd0 : 0 ≤ r / 64 := by omega
  by_cases a2 : r < 2048
  · have HE : Hid (Lib.encodeRune r = [(192 + r / 64).toNat.toUInt8, (128 + r % 64).toNat.toUInt8]) := by unfold Hid Lib.encodeRune; rw [Lib.encodeRuneZ_two (by omega) (by omega)]; rfl
    have hcv := fun w => conv_new w [(192 + r / 64).toNat.toUInt8, (128 + r % 64).toNat.toUInt8] 2 rfl #[.int .u8 (192 + r / 64), .int .u8 (128 + r % 64)] (by
      simp only [Lib.byteCells, List.map_cons, List.map_nil]
      rw [byte_toNat _ (by omega) (by omega), byte_toNat _ (by omega) (by omega), Int.toNat_of_nonneg (by omega), Int.toNat_of_nonneg (by omega)])
    have hs1 : ¬ (55296 ≤ r) := by omega
    go_enter Tryd.func46, Tryd.ntmps46
    go_wp2
    go_ret
    exact ⟨by rw [HE.out]; rfl, ((Below.refl _ w).alloc (Nat.le_refl _) _)⟩
  have d4096 : r.tdiv 4096 = r / 4096 := Int.tdiv_eq_ediv_of_nonneg h0
  have m2 : (r / 64).tmod 64 = r / 64 % 64 := Int.tmod_eq_emod_of_nonneg (by omega)
  have hd1 : 0 ≤ r / 4096 := by omega
  by_cases a3 : r < 65536
  · by_cases b1 : r < 55296
    · have hs1 : ¬ (55296 ≤ r) := by omega
      have HE : Hid (Lib.encodeRune r = [(224 + r / 4096).toNat.toUInt8, (128 + r / 64 % 64).toNat.toUInt8, (128 + r % 64).toNat.toUInt8]) := by unfold Hid Lib.encodeRune; rw [Lib.encodeRuneZ_three (by omega)]; rfl
      have hcv := fun w => conv_new w [(224 + r / 4096).toNat.toUInt8, (128 + r / 64 % 64).toNat.toUInt8, (128 + r % 64).toNat.toUInt8] 3 rfl #[.int .u8 (224 + r / 4096), .int .u8 (128 + r / 64 % 64), .int .u8 (128 + r % 64)] (by
        simp only [Lib.byteCells, List.map_cons, List.map_nil]
        rw [byte_toNat _ (by omega) (by omega), byte_toNat _ (by omega) (by omega), byte_toNat _ (by omega) (by omega), Int.toNat_of_nonneg (by omega), Int.toNat_of_nonneg (by omega), Int.toNat_of_nonneg (by omega)])
      go_enter Tryd.func46, Tryd.ntmps46
      go_wp2
      go_ret
      exact ⟨by rw [HE.out]; rfl, ((Below.refl _ w).alloc (Nat.le_refl _) _)⟩
    · have hs1 : 55296 ≤ r := by omega
      have hs2 : ¬ (r ≤ 57343) := by omega
      have HE : Hid (Lib.encodeRune r = [(224 + r / 4096).toNat.toUInt8, (128 + r / 64 % 64).toNat.toUInt8, (128 + r % 64).toNat.toUInt8]) := by unfold Hid Lib.encodeRune; rw [Lib.encodeRuneZ_three (by omega)]; rfl
      have hcv := fun w => conv_new w [(224 + r / 4096).toNat.toUInt8, (128 + r / 64 % 64).toNat.toUInt8, (128 + r % 64).toNat.toUInt8] 3 rfl #[.int .u8 (224 + r / 4096), .int .u8 (128 + r / 64 % 64), .int .u8 (128 + r % 64)] (by
        simp only [Lib.byteCells, List.map_cons, List.map_nil]
        rw [byte_toNat _ (by omega) (by omega), byte_toNat _ (by omega) (by omega), byte_toNat _ (by omega) (by omega), Int.toNat_of_nonneg (by omega), Int.toNat_of_nonneg (by omega), Int.toNat_of_nonneg (by omega)])
      go_enter Tryd.func46, Tryd.ntmps46
      go_wp2
      go_ret
      exact ⟨by rw [HE.out]; rfl, ((Below.refl _ w).alloc (Nat.le_refl _) _)⟩
  · have hs1 : 55296 ≤ r := by omega
    have hs2 : ¬ (r ≤ 57343) := by omega
    have d262 : r.tdiv 262144 = r / 262144 := Int.tdiv_eq_ediv_of_nonneg h0
    have m3 : (r / 4096).tmod 64 = r / 4096 % 64 := Int.tmod_eq_emod_of_nonneg (by omega)
    have HE : Hid (Lib.encodeRune r = [(240 + r / 262144).toNat.toUInt8, (128 + r / 4096 % 64).toNat.toUInt8, (128 + r / 64 % 64).toNat.toUInt8, (128 + r % 64).toNat.toUInt8]) := by unfold Hid Lib.encodeRune; rw [Lib.encodeRuneZ_four (by omega) (by omega)]; rfl
    have hcv := fun w => conv_new w [(240 + r / 262144).toNat.toUInt8, (128 + r / 4096 % 64).toNat.toUInt8, (128 + r / 64 % 64).toNat.toUInt8, (128 + r % 64).toNat.toUInt8] 4 rfl #[.int .u8 (240 + r / 262144), .int .u8 (128 + r / 4096 % 64), .int .u8 (128 + r / 64 % 64), .int .u8 (128 + r % 64)] (by
      simp only [Lib.byteCells, List.map_cons, List.map_nil]
      rw [byte_toNat _ (by omega) (by omega), byte_toNat _ (by omega) (by omega), byte_toNat _ (by omega) (by omega), byte_toNat _ (by omega) (by omega), Int.toNat_of_nonneg (by omega), Int.toNat_of_nonneg (by omega), Int.toNat_of_nonneg (by omega), Int.toNat_of_nonneg (by omega)])
    go_enter Tryd.func46, Tryd.ntmps46
    go_wp2
    go_ret
    exact ⟨by rw [HE.out]; rfl, ((Below.refl _ w).alloc (Nat.le_refl _) _)⟩
end Go.Proofs.YteffnlelmcbgmaaDoor
