/-
  The walk of lacunalaw01.TextSpots: it returns true. The condition: the tables and the library's shape stand.
-/
import Derived.Test.YteffnlelmcbgmaaDoorWrc
import Derived.Test.YteffnlelmcbgmaaDoorRat
set_option linter.unusedVariables false
namespace Go.Proofs.YteffnlelmcbgmaaDoor
open Go.RowKit Go.Shelf

set_option maxRecDepth 100000 in
set_option maxHeartbeats 2000000 in
theorem spots_walk (s : ByteArray) (at_ : Int) (w : World) (hlo : -9223372036854775808 ≤ at_) (hhi : at_ ≤ 9223372036854775807) (hsh : Sh w) (hT : Tabs w) :
    Calls Tryd.prog 3 #[.string s, .int .i64 at_] w fun e w' => e = .returned (.bool true) ∧ Below w.heap.size w w' := by
  have HS := Lib.hid hsh
  have HT := Lib.hid hT
  clear hsh hT
  go_enter Tryd.func3, Tryd.ntmps3
  go_wp2_with fail
  refine (works_calls _ HS.out HT.out).mono ?_
  rintro e w1 ⟨rfl, hb1⟩
  by_cases hb : 16384 < s.size
  · have hb' : (16384 : Int) < s.size := by omega
    go_wp2
    go_ret
    exact ⟨rfl, hb1⟩
  have hb' : ¬ ((16384 : Int) < s.size) := by omega
  have HA : Hid (∃ (l c k : Int), (∀ w, Tabs w → Calls Tryd.prog 10 #[.string s, .int .i64 at_] w fun e w' => e = .returned (.tuple #[.agg #[.int .i64 l, .int .i64 c], .int .i64 k]) ∧ Below w.heap.size w w') ∧
      (∀ w, Calls Tryd.prog 11 #[.string s, .int .i64 at_] w fun e w' => e = .returned (.tuple #[.agg #[.int .i64 l, .int .i64 c], .int .i64 k]) ∧ Below w.heap.size w w')) := by
    by_cases h : at_ < 0 ∨ (s.size : Int) < at_
    · exact ⟨0, 0, 10, fun w _ => at_out s at_ h w, fun w => atR_out s at_ h w⟩
    · obtain ⟨n, rfl⟩ : ∃ n : Nat, at_ = n := ⟨at_.toNat, by omega⟩
      exact ⟨_, _, 0, fun w hT => at_in s n (by omega) (by omega) w hT, fun w => atR_in s n (by omega) (by omega) w⟩
  obtain ⟨l, c, k, h1, h2⟩ := HA.out
  have H1 := Lib.hid h1
  have H2 := Lib.hid h2
  clear h1 h2 HA
  go_wp2_with fail
  refine (H1.out _ (HT.out.below hb1)).mono ?_
  rintro e w2 ⟨rfl, hb2⟩
  have hb2' := hb1.trans (hb2.mono hb1.size)
  clear hb1 hb2
  go_wp2_with fail
  generalize hW3 : World.alloc _ _ = W3
  have hX3 : W3.heap[w2.heap.size]? = some (.cells #[.int .i64 l, .int .i64 c] 24 (0, 0)) := by rw [← hW3]; exact heap_alloc_new w2 _
  have hb3 : Below w.heap.size w W3 := by rw [← hW3]; exact hb2'.alloc hb2'.size _
  clear hW3 hb2'
  refine (H2.out _).mono ?_
  rintro e w4 ⟨rfl, hb4⟩
  have hX4 : w4.heap[w2.heap.size]? = _ := (hb4.block _ (Array.getElem?_eq_some_iff.1 hX3).1).trans hX3
  have hb4' := hb3.trans (hb4.mono hb3.size)
  have hlt : w2.heap.size < w4.heap.size := (Array.getElem?_eq_some_iff.1 hX4).1
  have c0 : ∀ o, (w4.alloc o).cell? ⟨w2.heap.size, 0, none⟩ = some (.int .i64 l) := fun o => by rw [cell_of_heap' ((Below.heap_alloc _ _ _ hlt).trans hX4)]; rfl
  have c1 : ∀ o, (w4.alloc o).cell? ⟨w2.heap.size, 1, none⟩ = some (.int .i64 c) := fun o => by rw [cell_of_heap' ((Below.heap_alloc _ _ _ hlt).trans hX4)]; rfl
  clear hb3 hX3 hb4 hX4 HS HT H1 H2
  go_wp2
  go_ret
  refine ⟨rfl, hb4'.alloc hb4'.size _⟩
end Go.Proofs.YteffnlelmcbgmaaDoor
