/-
  The contract of lacunalaw01.works: it returns true. The condition: the tables and the library's shape stand.
-/
import Derived.Test.YteffnlelmcbgmaaDoorWrk
import Derived.Test.YteffnlelmcbgmaaDoorTxn
set_option linter.unusedVariables false
namespace Go.Proofs.YteffnlelmcbgmaaDoor
open Go.RowKit Go.Shelf

set_option maxRecDepth 100000 in
theorem works_calls (w : World) (hsh : Sh w) (hT : Tabs w) :
    Calls Tryd.prog 9 #[] w fun e w' => e = .returned (.bool true) ∧ Below w.heap.size w w' := by
  have HS := Lib.hid hsh
  have HT := Lib.hid hT
  have D1 : Hid (∀ w, Tabs w → Calls Tryd.prog 15 #[.string ⟨#[97, 226, 130, 98]⟩] w fun e w' => e = .returned (.string ⟨#[97, 239, 191, 189, 98]⟩) ∧ Below w.heap.size w w') := fun w h =>
    (decodeT_calls ⟨#[97, 226, 130, 98]⟩ w (by decide) h).mono fun e w' h => ⟨h.1.trans (ret_str works_dec1), h.2⟩
  have D2 : Hid (∀ w, Tabs w → Calls Tryd.prog 15 #[.string ⟨#[237, 160, 128]⟩] w fun e w' => e = .returned (.string ⟨#[239, 191, 189, 239, 191, 189, 239, 191, 189]⟩) ∧ Below w.heap.size w w') := fun w h =>
    (decodeT_calls ⟨#[237, 160, 128]⟩ w (by decide) h).mono fun e w' h => ⟨h.1.trans (ret_str works_dec2), h.2⟩
  have I1 : Hid (∀ w, Sh w → Tabs w → Calls Tryd.prog 12 #[.string ⟨#[97, 13, 10, 98, 13, 99, 13]⟩] w fun e w' => e = .returned (.string ⟨#[97, 10, 98, 10, 99, 10]⟩) ∧ Below w.heap.size w w') := fun w h h2 =>
    (input_calls ⟨#[97, 13, 10, 98, 13, 99, 13]⟩ (by decide) w h h2).mono fun e w' h => ⟨h.1.trans (ret_str works_inp), h.2⟩
  have hgl := hT.lt
  clear hsh hT
  go_enter Tryd.func9, Tryd.ntmps9
  go_wp2_with fail
  refine (D1.out _ HT.out).mono ?_
  rintro e w1 ⟨rfl, hb1⟩
  go_wp2_with fail
  refine (D2.out _ (HT.out.below hb1)).mono ?_
  rintro e w2 ⟨rfl, hb2⟩
  have hb2' := hb1.trans (hb2.mono hb1.size)
  clear hb1 hb2
  go_wp2_with fail
  refine (I1.out _ (HS.out.below hb2') (HT.out.below hb2')).mono ?_
  rintro e w3 ⟨rfl, hb3⟩
  have hb3' := hb2'.trans (hb3.mono hb2'.size)
  clear hb2' hb3
  go_wp2_with fail
  generalize hW0 : World.alloc _ _ = W0
  have hs3 := hb3'.size
  have hD0 : W0.heap[w3.heap.size]? = some (.cells #[.string ⟨#[]⟩, .bool false] 33 (0, 0)) := by rw [← hW0]; exact heap_alloc_new w3 _
  have hb0 : Below w.heap.size w W0 := by rw [← hW0]; exact hb3'.alloc hs3 _
  clear hW0 hb3'
  refine (feedL_calls w3.heap.size [] [97, 13] false W0 (by decide) (HT.out.below hb0) hD0 (by omega) (by omega)).mono ?_
  rw [works_f1.1, works_f1.2]
  rintro e w4 ⟨rfl, hD4, hb4⟩
  have hb4' := hb0.trans (hb4.mono hs3)
  clear hb0 hb4 hD0
  go_wp2_with fail
  refine (feedL_calls w3.heap.size [] [10, 226] true w4 (by decide) (HT.out.below hb4') hD4 (by omega) (by omega)).mono ?_
  rw [works_f2.1, works_f2.2]
  rintro e w5 ⟨rfl, hD5, hb5⟩
  have hb5' := hb4'.trans (hb5.mono hs3)
  clear hb4' hb5 hD4
  go_wp2_with fail
  refine (feedL_calls w3.heap.size [226] [130] false w5 (by decide) (HT.out.below hb5') hD5 (by omega) (by omega)).mono ?_
  rw [works_f3.1, works_f3.2]
  rintro e w6 ⟨rfl, hD6, hb6⟩
  have hb6' := hb5'.trans (hb6.mono hs3)
  clear hb5' hb6 hD5
  go_wp2_with fail
  refine (close_calls w3.heap.size ⟨#[226, 130]⟩ false w6 (by decide) (HT.out.below hb6') hD6).mono ?_
  rw [show decd (⟨#[226, 130]⟩ : ByteArray).data.toList = [239, 191, 189] from works_cl]
  rintro e w7 ⟨rfl, hD7, hb7⟩
  have hb7' := hb6'.trans (hb7.mono hs3)
  clear hb6' hb7 hD6 hD7
  go_wp2_with fail
  refine (at_in ⟨#[97, 98, 10, 99, 100]⟩ 4 (by decide) (by decide) w7 (HT.out.below hb7')).mono ?_
  rw [works_ex, works_at1, works_at2]
  rintro e w8 ⟨rfl, hb8⟩
  have hb8' := hb7'.trans (hb8.mono hb7'.size)
  clear hb7' hb8
  go_wp2_with fail
  generalize hW9 : World.alloc _ _ = W9
  have hX9 : W9.heap[w8.heap.size]? = some (.cells #[.int .i64 2, .int .i64 2] 24 (0, 0)) := by rw [← hW9]; exact heap_alloc_new w8 _
  have hb9 : Below w.heap.size w W9 := by rw [← hW9]; exact hb8'.alloc hb8'.size _
  clear hW9
  refine (at_out ⟨#[]⟩ 1 (.inr (by decide)) W9).mono ?_
  rintro e w10 ⟨rfl, hb10⟩
  have hX10 : w10.heap[w8.heap.size]? = _ := (hb10.block _ (Array.getElem?_eq_some_iff.1 hX9).1).trans hX9
  have hb10' := hb9.trans (hb10.mono hb9.size)
  have hlt : w8.heap.size < w10.heap.size := (Array.getElem?_eq_some_iff.1 hX10).1
  have c0 : ∀ o, (w10.alloc o).cell? ⟨w8.heap.size, 0, none⟩ = some (.int .i64 2) := fun o => by rw [cell_of_heap' ((Below.heap_alloc _ _ _ hlt).trans hX10)]; rfl
  have c1 : ∀ o, (w10.alloc o).cell? ⟨w8.heap.size, 1, none⟩ = some (.int .i64 2) := fun o => by rw [cell_of_heap' ((Below.heap_alloc _ _ _ hlt).trans hX10)]; rfl
  clear hb9 hX9 hb10 hX10 HS HT D1 D2 I1
  go_wp2
  go_ret
  refine ⟨rfl, hb10'.alloc hb10'.size _⟩
end Go.Proofs.YteffnlelmcbgmaaDoor
