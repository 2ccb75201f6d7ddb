/-
  The contract of lacunalaw04.works: it returns true. The condition: MaxLen holds some number.
-/
import Derived.Test.YtileclmmobkcaaaDoorMdm
import Derived.KernelRfl
set_option linter.unusedVariables false
namespace Go.Proofs.YtileclmmobkcaaaDoor
open Go.RowKit Go.Shelf

theorem decl_conc (s : ByteArray) (cd : Bool) (hs : s.size ≤ 268435456) (t : Tk) (k : Nat) (ok : Bool) (h : dcl cd s.data.toList = (t, k, ok)) (m : Int) (hm : m = (k : Nat)) (w : World) (hsh : Sh w) :
    Calls Tryd.prog 8 #[.string s, .int .i64 0, .bool cd] w (TR w t m ok) := by
  have := decl_in s 0 cd hs (Nat.zero_le _) w hsh
  rw [List.drop_zero, h] at this
  rw [hm]
  have e : ((0 : Nat) : Int) + ((k : Nat) : Int) = ((k : Nat) : Int) := by omega
  dsimp only at this
  rw [e] at this
  exact this
theorem bogus_conc (s : ByteArray) (hs : s.size ≤ 268435456) (t : List UInt8) (k : Nat) (ok : Bool) (h : bg s.data.toList = (t, k, ok)) (m : Int) (hm : m = (k : Nat)) (w : World) (hsh : Sh w) :
    Calls Tryd.prog 11 #[.string s, .int .i64 0] w (TR w { kind := 4, text := t } m ok) := by
  have := bogus_in s 0 s.data.toList hs ⟨Nat.zero_le _, rfl⟩ w hsh
  rw [h] at this
  rw [hm]
  have e : ((0 : Nat) : Int) + ((k : Nat) : Int) = ((k : Nat) : Int) := by omega
  dsimp only at this
  rw [e] at this
  exact this

theorem wk_0 : dcl false [45, 45, 97, 45, 45, 98, 45, 45, 62, 99] = ({ kind := 4, name := [], text := [97, 45, 45, 98], pub := [], sys := [], hp := false, hs := false, q := false }, 9, true) := by kernel_rfl
theorem wk_1 : dcl false [45, 45, 97, 45, 45, 45] = ({ kind := 4, name := [], text := [97, 45], pub := [], sys := [], hp := false, hs := false, q := false }, 6, false) := by kernel_rfl
theorem wk_2 : dcl false [100, 111, 99, 116, 121, 112, 101, 32, 104, 116, 109, 108, 32, 112, 117, 98, 108, 105, 99, 32, 34, 97, 34, 32, 39, 98, 39, 32, 99, 62] = ({ kind := 5, name := [104, 116, 109, 108], text := [], pub := [97], sys := [98], hp := true, hs := true, q := false }, 30, true) := by kernel_rfl
theorem wk_3 : dcl true [91, 67, 68, 65, 84, 65, 91, 97, 93, 93, 62] = ({ kind := 1, name := [], text := [97], pub := [], sys := [], hp := false, hs := false, q := false }, 11, true) := by kernel_rfl
theorem wk_4 : bg [63, 120, 62] = ([63, 120], 3, true) := by kernel_rfl

set_option maxRecDepth 100000 in
set_option maxHeartbeats 1000000 in
theorem works_calls (w : World) (hsh : Sh w) : Calls Tryd.prog 7 #[] w fun e w' => e = .returned (.bool true) ∧ Below w.heap.size w w' := by
  have HS := Lib.hid hsh
  have C0 : Hid (∀ w, Sh w → Calls Tryd.prog 8 #[.string ⟨#[45, 45, 97, 45, 45, 98, 45, 45, 62, 99]⟩, .int .i64 0, .bool false] w fun e w' => e = .returned (.tuple #[.agg #[.int .u8 4, .string ⟨#[]⟩, .slice none 0 0, .bool false, .string ⟨#[97, 45, 45, 98]⟩, .string ⟨#[]⟩, .string ⟨#[]⟩, .bool false, .bool false, .bool false], .int .i64 9, .bool true]) ∧ Below w.heap.size w w') := fun w h => decl_conc ⟨#[45, 45, 97, 45, 45, 98, 45, 45, 62, 99]⟩ false (by decide) _ _ _ wk_0 9 rfl w h
  have C1 : Hid (∀ w, Sh w → Calls Tryd.prog 8 #[.string ⟨#[45, 45, 97, 45, 45, 45]⟩, .int .i64 0, .bool false] w fun e w' => e = .returned (.tuple #[.agg #[.int .u8 4, .string ⟨#[]⟩, .slice none 0 0, .bool false, .string ⟨#[97, 45]⟩, .string ⟨#[]⟩, .string ⟨#[]⟩, .bool false, .bool false, .bool false], .int .i64 6, .bool false]) ∧ Below w.heap.size w w') := fun w h => decl_conc ⟨#[45, 45, 97, 45, 45, 45]⟩ false (by decide) _ _ _ wk_1 6 rfl w h
  have C2 : Hid (∀ w, Sh w → Calls Tryd.prog 8 #[.string ⟨#[100, 111, 99, 116, 121, 112, 101, 32, 104, 116, 109, 108, 32, 112, 117, 98, 108, 105, 99, 32, 34, 97, 34, 32, 39, 98, 39, 32, 99, 62]⟩, .int .i64 0, .bool false] w fun e w' => e = .returned (.tuple #[.agg #[.int .u8 5, .string ⟨#[104, 116, 109, 108]⟩, .slice none 0 0, .bool false, .string ⟨#[]⟩, .string ⟨#[97]⟩, .string ⟨#[98]⟩, .bool true, .bool true, .bool false], .int .i64 30, .bool true]) ∧ Below w.heap.size w w') := fun w h => decl_conc ⟨#[100, 111, 99, 116, 121, 112, 101, 32, 104, 116, 109, 108, 32, 112, 117, 98, 108, 105, 99, 32, 34, 97, 34, 32, 39, 98, 39, 32, 99, 62]⟩ false (by decide) _ _ _ wk_2 30 rfl w h
  have C3 : Hid (∀ w, Sh w → Calls Tryd.prog 8 #[.string ⟨#[91, 67, 68, 65, 84, 65, 91, 97, 93, 93, 62]⟩, .int .i64 0, .bool true] w fun e w' => e = .returned (.tuple #[.agg #[.int .u8 1, .string ⟨#[]⟩, .slice none 0 0, .bool false, .string ⟨#[97]⟩, .string ⟨#[]⟩, .string ⟨#[]⟩, .bool false, .bool false, .bool false], .int .i64 11, .bool true]) ∧ Below w.heap.size w w') := fun w h => decl_conc ⟨#[91, 67, 68, 65, 84, 65, 91, 97, 93, 93, 62]⟩ true (by decide) _ _ _ wk_3 11 rfl w h
  have C4 : Hid (∀ w, Sh w → Calls Tryd.prog 11 #[.string ⟨#[63, 120, 62]⟩, .int .i64 0] w fun e w' => e = .returned (.tuple #[.agg #[.int .u8 4, .string ⟨#[]⟩, .slice none 0 0, .bool false, .string ⟨#[63, 120]⟩, .string ⟨#[]⟩, .string ⟨#[]⟩, .bool false, .bool false, .bool false], .int .i64 3, .bool true]) ∧ Below w.heap.size w w') := fun w h => bogus_conc ⟨#[63, 120, 62]⟩ (by decide) _ _ _ wk_4 3 rfl w h
  clear hsh
  go_enter Tryd.func7, Tryd.ntmps7
  have HB := Lib.hid (Below.refl w.heap.size w)
  go_wp2_with fail
  refine (C0.out _ (HS.out.below HB.out)).mono ?_
  rintro e v0 ⟨rfl, hb⟩
  replace HB := Lib.hid (HB.out.trans (hb.mono HB.out.size))
  clear hb
  go_wp2_with fail
  have hnew := heap_alloc_new v0 (.cells #[.int .u8 4, .string ⟨#[]⟩, .slice none 0 0, .bool false, .string ⟨#[97, 45, 45, 98]⟩, .string ⟨#[]⟩, .string ⟨#[]⟩, .bool false, .bool false, .bool false] 26)
  have hbw := HB.out.alloc HB.out.size (.cells #[.int .u8 4, .string ⟨#[]⟩, .slice none 0 0, .bool false, .string ⟨#[97, 45, 45, 98]⟩, .string ⟨#[]⟩, .string ⟨#[]⟩, .bool false, .bool false, .bool false] 26)
  generalize hW0 : World.alloc _ _ = W0 at *
  clear hW0
  replace HB := Lib.hid hbw
  have B0 := Lib.hid hnew
  clear hnew hbw 
  go_wp2_with fail
  refine (C1.out _ (HS.out.below HB.out)).mono ?_
  rintro e v1 ⟨rfl, hb⟩
  replace HB := Lib.hid (HB.out.trans (hb.mono HB.out.size))
  replace B0 := Lib.hid ((hb.block _ (lt_of_block B0.out)).trans B0.out)
  clear hb
  go_wp2_with fail
  have hnew := heap_alloc_new v1 (.cells #[.int .u8 4, .string ⟨#[]⟩, .slice none 0 0, .bool false, .string ⟨#[97, 45]⟩, .string ⟨#[]⟩, .string ⟨#[]⟩, .bool false, .bool false, .bool false] 26)
  have hB0 : (v1.alloc (.cells #[.int .u8 4, .string ⟨#[]⟩, .slice none 0 0, .bool false, .string ⟨#[97, 45]⟩, .string ⟨#[]⟩, .string ⟨#[]⟩, .bool false, .bool false, .bool false] 26)).heap[v0.heap.size]? = _ := (Below.heap_alloc _ _ _ (lt_of_block B0.out)).trans B0.out
  have hbw := HB.out.alloc HB.out.size (.cells #[.int .u8 4, .string ⟨#[]⟩, .slice none 0 0, .bool false, .string ⟨#[97, 45]⟩, .string ⟨#[]⟩, .string ⟨#[]⟩, .bool false, .bool false, .bool false] 26)
  generalize hW1 : World.alloc _ _ = W1 at *
  clear hW1
  replace HB := Lib.hid hbw
  have B1 := Lib.hid hnew
  replace B0 := Lib.hid hB0
  clear hnew hbw hB0
  go_wp2_with fail
  refine (C2.out _ (HS.out.below HB.out)).mono ?_
  rintro e v2 ⟨rfl, hb⟩
  replace HB := Lib.hid (HB.out.trans (hb.mono HB.out.size))
  replace B0 := Lib.hid ((hb.block _ (lt_of_block B0.out)).trans B0.out)
  replace B1 := Lib.hid ((hb.block _ (lt_of_block B1.out)).trans B1.out)
  clear hb
  go_wp2_with fail
  have hnew := heap_alloc_new v2 (.cells #[.int .u8 5, .string ⟨#[104, 116, 109, 108]⟩, .slice none 0 0, .bool false, .string ⟨#[]⟩, .string ⟨#[97]⟩, .string ⟨#[98]⟩, .bool true, .bool true, .bool false] 26)
  have hB0 : (v2.alloc (.cells #[.int .u8 5, .string ⟨#[104, 116, 109, 108]⟩, .slice none 0 0, .bool false, .string ⟨#[]⟩, .string ⟨#[97]⟩, .string ⟨#[98]⟩, .bool true, .bool true, .bool false] 26)).heap[v0.heap.size]? = _ := (Below.heap_alloc _ _ _ (lt_of_block B0.out)).trans B0.out
  have hB1 : (v2.alloc (.cells #[.int .u8 5, .string ⟨#[104, 116, 109, 108]⟩, .slice none 0 0, .bool false, .string ⟨#[]⟩, .string ⟨#[97]⟩, .string ⟨#[98]⟩, .bool true, .bool true, .bool false] 26)).heap[v1.heap.size]? = _ := (Below.heap_alloc _ _ _ (lt_of_block B1.out)).trans B1.out
  have hbw := HB.out.alloc HB.out.size (.cells #[.int .u8 5, .string ⟨#[104, 116, 109, 108]⟩, .slice none 0 0, .bool false, .string ⟨#[]⟩, .string ⟨#[97]⟩, .string ⟨#[98]⟩, .bool true, .bool true, .bool false] 26)
  generalize hW2 : World.alloc _ _ = W2 at *
  clear hW2
  replace HB := Lib.hid hbw
  have B2 := Lib.hid hnew
  replace B0 := Lib.hid hB0
  replace B1 := Lib.hid hB1
  clear hnew hbw hB0 hB1
  go_wp2_with fail
  refine (C3.out _ (HS.out.below HB.out)).mono ?_
  rintro e v3 ⟨rfl, hb⟩
  replace HB := Lib.hid (HB.out.trans (hb.mono HB.out.size))
  replace B0 := Lib.hid ((hb.block _ (lt_of_block B0.out)).trans B0.out)
  replace B1 := Lib.hid ((hb.block _ (lt_of_block B1.out)).trans B1.out)
  replace B2 := Lib.hid ((hb.block _ (lt_of_block B2.out)).trans B2.out)
  clear hb
  go_wp2_with fail
  have hnew := heap_alloc_new v3 (.cells #[.int .u8 1, .string ⟨#[]⟩, .slice none 0 0, .bool false, .string ⟨#[97]⟩, .string ⟨#[]⟩, .string ⟨#[]⟩, .bool false, .bool false, .bool false] 26)
  have hB0 : (v3.alloc (.cells #[.int .u8 1, .string ⟨#[]⟩, .slice none 0 0, .bool false, .string ⟨#[97]⟩, .string ⟨#[]⟩, .string ⟨#[]⟩, .bool false, .bool false, .bool false] 26)).heap[v0.heap.size]? = _ := (Below.heap_alloc _ _ _ (lt_of_block B0.out)).trans B0.out
  have hB1 : (v3.alloc (.cells #[.int .u8 1, .string ⟨#[]⟩, .slice none 0 0, .bool false, .string ⟨#[97]⟩, .string ⟨#[]⟩, .string ⟨#[]⟩, .bool false, .bool false, .bool false] 26)).heap[v1.heap.size]? = _ := (Below.heap_alloc _ _ _ (lt_of_block B1.out)).trans B1.out
  have hB2 : (v3.alloc (.cells #[.int .u8 1, .string ⟨#[]⟩, .slice none 0 0, .bool false, .string ⟨#[97]⟩, .string ⟨#[]⟩, .string ⟨#[]⟩, .bool false, .bool false, .bool false] 26)).heap[v2.heap.size]? = _ := (Below.heap_alloc _ _ _ (lt_of_block B2.out)).trans B2.out
  have hbw := HB.out.alloc HB.out.size (.cells #[.int .u8 1, .string ⟨#[]⟩, .slice none 0 0, .bool false, .string ⟨#[97]⟩, .string ⟨#[]⟩, .string ⟨#[]⟩, .bool false, .bool false, .bool false] 26)
  generalize hW3 : World.alloc _ _ = W3 at *
  clear hW3
  replace HB := Lib.hid hbw
  have B3 := Lib.hid hnew
  replace B0 := Lib.hid hB0
  replace B1 := Lib.hid hB1
  replace B2 := Lib.hid hB2
  clear hnew hbw hB0 hB1 hB2
  go_wp2_with fail
  refine (C4.out _ (HS.out.below HB.out)).mono ?_
  rintro e v4 ⟨rfl, hb⟩
  replace HB := Lib.hid (HB.out.trans (hb.mono HB.out.size))
  replace B0 := Lib.hid ((hb.block _ (lt_of_block B0.out)).trans B0.out)
  replace B1 := Lib.hid ((hb.block _ (lt_of_block B1.out)).trans B1.out)
  replace B2 := Lib.hid ((hb.block _ (lt_of_block B2.out)).trans B2.out)
  replace B3 := Lib.hid ((hb.block _ (lt_of_block B3.out)).trans B3.out)
  clear hb

  have c0_0 : ∀ o, (v4.alloc o).cell? ⟨v0.heap.size, 0, none⟩ = some (.int .u8 4) := fun o => by rw [cell_of_heap' ((Below.heap_alloc _ _ _ (lt_of_block B0.out)).trans B0.out)]; rfl
  have c0_4 : ∀ o, (v4.alloc o).cell? ⟨v0.heap.size, 4, none⟩ = some (.string ⟨#[97, 45, 45, 98]⟩) := fun o => by rw [cell_of_heap' ((Below.heap_alloc _ _ _ (lt_of_block B0.out)).trans B0.out)]; rfl
  have c1_4 : ∀ o, (v4.alloc o).cell? ⟨v1.heap.size, 4, none⟩ = some (.string ⟨#[97, 45]⟩) := fun o => by rw [cell_of_heap' ((Below.heap_alloc _ _ _ (lt_of_block B1.out)).trans B1.out)]; rfl
  have c2_0 : ∀ o, (v4.alloc o).cell? ⟨v2.heap.size, 0, none⟩ = some (.int .u8 5) := fun o => by rw [cell_of_heap' ((Below.heap_alloc _ _ _ (lt_of_block B2.out)).trans B2.out)]; rfl
  have c2_1 : ∀ o, (v4.alloc o).cell? ⟨v2.heap.size, 1, none⟩ = some (.string ⟨#[104, 116, 109, 108]⟩) := fun o => by rw [cell_of_heap' ((Below.heap_alloc _ _ _ (lt_of_block B2.out)).trans B2.out)]; rfl
  have c2_5 : ∀ o, (v4.alloc o).cell? ⟨v2.heap.size, 5, none⟩ = some (.string ⟨#[97]⟩) := fun o => by rw [cell_of_heap' ((Below.heap_alloc _ _ _ (lt_of_block B2.out)).trans B2.out)]; rfl
  have c2_6 : ∀ o, (v4.alloc o).cell? ⟨v2.heap.size, 6, none⟩ = some (.string ⟨#[98]⟩) := fun o => by rw [cell_of_heap' ((Below.heap_alloc _ _ _ (lt_of_block B2.out)).trans B2.out)]; rfl
  have c2_7 : ∀ o, (v4.alloc o).cell? ⟨v2.heap.size, 7, none⟩ = some (.bool true) := fun o => by rw [cell_of_heap' ((Below.heap_alloc _ _ _ (lt_of_block B2.out)).trans B2.out)]; rfl
  have c2_8 : ∀ o, (v4.alloc o).cell? ⟨v2.heap.size, 8, none⟩ = some (.bool true) := fun o => by rw [cell_of_heap' ((Below.heap_alloc _ _ _ (lt_of_block B2.out)).trans B2.out)]; rfl
  have c2_9 : ∀ o, (v4.alloc o).cell? ⟨v2.heap.size, 9, none⟩ = some (.bool false) := fun o => by rw [cell_of_heap' ((Below.heap_alloc _ _ _ (lt_of_block B2.out)).trans B2.out)]; rfl
  have c3_0 : ∀ o, (v4.alloc o).cell? ⟨v3.heap.size, 0, none⟩ = some (.int .u8 1) := fun o => by rw [cell_of_heap' ((Below.heap_alloc _ _ _ (lt_of_block B3.out)).trans B3.out)]; rfl
  have c3_4 : ∀ o, (v4.alloc o).cell? ⟨v3.heap.size, 4, none⟩ = some (.string ⟨#[97]⟩) := fun o => by rw [cell_of_heap' ((Below.heap_alloc _ _ _ (lt_of_block B3.out)).trans B3.out)]; rfl
  clear C0 C1 C2 C3 C4 HS
  go_wp2
  go_ret
  exact ⟨rfl, HB.out.alloc HB.out.size _⟩
end Go.Proofs.YtileclmmobkcaaaDoor
