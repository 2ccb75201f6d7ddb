/-
  The contract of text.piece: how many bytes the piece has that bytes begin with, whether it is a code point's. The condition: the bytes are not empty.
-/
import Derived.Test.YteffnlelmcbgmaaDoorTxa
set_option linter.unusedVariables false
namespace Go.Proofs.YteffnlelmcbgmaaDoor
open Go.RowKit

theorem ret_two {a b : Int} {c d : Bool} (h : a = b) (h' : c = d) : Ending.returned (.tuple #[.int .i64 a, .bool c]) = .returned (.tuple #[.int .i64 b, .bool d]) := by rw [h, h']

theorem cell_of_heap' {w : World} {b : Nat} {cs : Array Value} {T : TypeId} {fr : Nat × Nat} (hb : w.heap[b]? = some (.cells cs T fr)) (j : Nat) : w.cell? ⟨b, j, none⟩ = cs[j]? := by
  simp [World.cell?, hb]
theorem frozen_at {w w' : World} {b : Nat} {cs : Array Value} {T : TypeId} (h : w'.heap[b]? = w.heap[b]?) (hb : w.heap[b]? = some (.cells cs T (0, 0))) : ∀ j, w'.frozen? ⟨b, j, none⟩ = false := by
  intro j
  rw [hb] at h
  simp [World.frozen?, h]
theorem set3 {w : World} {b : Nat} {x y z : Value} {T : TypeId} {fr : Nat × Nat} (h : w.heap[b]? = some (.cells #[x, y, z] T fr)) (x' y' z' : Value) :
    (((w.setCell ⟨b, 0, none⟩ x').setCell ⟨b, 1, none⟩ y').setCell ⟨b, 2, none⟩ z').heap[b]? = some (.cells #[x', y', z'] T fr) := by
  simp [World.setCell, Array.getElem?_modify, h]
theorem lo_hi_lt (c : Nat) : hif c < 256 := by
  unfold hif; (repeat' split) <;> omega

set_option maxRecDepth 100000 in
set_option maxHeartbeats 1000000 in
theorem piece_calls (s : ByteArray) (w : World) (h0 : 0 < s.size) (hs : s.size ≤ 4611686018427387904) :
    Calls Tryd.prog 44 #[.string s] w fun e w' => e = .returned (.tuple #[.int .i64 (pc s.data.toList).1, .bool (pc s.data.toList).2]) ∧ Below w.heap.size w w' := by
  have hc := s[0].toNat_lt
  obtain ⟨c, hcc⟩ : ∃ c : Nat, s[0].toNat = c := ⟨_, rfl⟩
  have HP : Hid (pc s.data.toList = if okf c then pcg (nd c) (lof c) (hif c) (s.data.toList.drop 1) 1 else (1, false)) := by
    unfold Hid
    have := List.drop_eq_getElem_cons (l := s.data.toList) (i := 0) (by simpa using h0)
    rw [List.drop_zero] at this
    rw [this, ← hcc]
    rfl
  have hc256 : c < 256 := by omega
  have hidx : ∀ w, (Instr.index 9 (.string s) (.int .i64 0)).run Tryd.prog w = .ok (.int .u8 (c : Int)) w := by
    intro w
    rw [run_index_string w _ _ _ _ Tryd.underlying9, dif_pos ⟨by omega, by omega⟩]
    rw [← hcc]
    rfl
  clear hcc hc
  by_cases hok : okf c = true
  · have hnd := nd_le c
    go_enter Tryd.func44, Tryd.ntmps44
    go_wp2_with fail
    refine (first_calls c _ hc256).mono ?_
    rw [hok]
    rintro e w1 ⟨rfl, hb1⟩
    go_wp2_with fail
    have hb1a := hb1.alloc hb1.size (.cells #[.int .i64 (nd c), .int .u8 (lof c), .int .u8 (hif c)] 70)
    have hnew := heap_alloc_new w1 (.cells #[.int .i64 (nd c), .int .u8 (lof c), .int .u8 (hif c)] 70)
    have hw1s := hb1.size
    have HL := Lib.hid (lo_hi_lt c)
    have HPok : Hid (pcg (nd c) (lof c) (hif c) (s.data.toList.drop 1) 1 = pc s.data.toList) := by unfold Hid; rw [HP.out, hok]; rfl
    clear hok HP
    go_loopw [6] (fun i wr => ∃ n k lo hi : Nat, i = .int .i64 n ∧ wr.heap[w1.heap.size]? = some (.cells #[.int .i64 k, .int .u8 lo, .int .u8 hi] 70 (0, 0)) ∧ Below w.heap.size w wr ∧ n ≤ s.size ∧ k ≤ 3 ∧ hi < 256 ∧ Hid (pcg k lo hi (s.data.toList.drop n) n = pc s.data.toList)) (fun i _ => s.size - (intOf i).toNat)
    case atStart => exact ⟨1, nd c, lof c, hif c, rfl, hnew, hb1a, h0, hnd, HL.out, HPok⟩
    case round =>
      obtain ⟨n, k, lo, hi, rfl, hcell, hbw, hn, hk, hhi, HG⟩ := hrel
      clear hb1a hnew hb1
      have hlt : w1.heap.size < wr.heap.size := (Array.getElem?_eq_some_iff.1 hcell).1
      have c0 : wr.cell? ⟨w1.heap.size, 0, none⟩ = some (.int .i64 k) := by rw [cell_of_heap' hcell]; rfl
      have c1 : wr.cell? ⟨w1.heap.size, 1, none⟩ = some (.int .u8 lo) := by rw [cell_of_heap' hcell]; rfl
      have c2 : wr.cell? ⟨w1.heap.size, 2, none⟩ = some (.int .u8 hi) := by rw [cell_of_heap' hcell]; rfl
      by_cases hk0 : k = 0
      · subst hk0
        go_wp2
        go_ret2
        refine ⟨ret_two ?_ ?_, hbw⟩
        · rw [← HG.out]; rfl
        · rw [← HG.out]; rfl
      · have hk1 : (0 : Int) < k := by omega
        by_cases hne : n = s.size
        · have hneb : ((n : Int) == (s.size : Int)) = true := by rw [hne]; simp
          have HN := Lib.hid hne
          have HE : Hid (pc s.data.toList = (n, false)) := by
            unfold Hid
            rw [← HG.out, List.drop_of_length_le (by simp; omega)]
            match k, hk0 with
            | k + 1, _ => rfl
          clear hne
          go_wp2
          go_ret2
          refine ⟨ret_two ?_ ?_, hbw⟩
          · rw [HE.out]
          · rw [HE.out]
        · have hneb : ((n : Int) == (s.size : Int)) = false := beq_eq_false_iff_ne.2 (by omega)
          have hlt' : n < s.size := by omega
          clear hne
          have hxl := s[n].toNat_lt
          have HD : Hid (s.data.toList.drop n = s[n] :: s.data.toList.drop (n + 1)) := by
            unfold Hid; rw [List.drop_eq_getElem_cons (by simpa using hlt')]; rfl
          by_cases hin : lo ≤ s[n].toNat ∧ s[n].toNat ≤ hi
          · obtain ⟨i1, i2⟩ := hin
            have HS : Hid (pcg (k - 1) 128 191 (s.data.toList.drop (n + 1)) (n + 1) = pc s.data.toList) := by
              unfold Hid
              rw [← HG.out, HD.out]
              match k, hk0 with
              | k + 1, _ => rw [pcg, if_pos ⟨i1, i2⟩]; rfl
            go_wp2_with fail
            go_region_with (go_at_call 52; refine (more_yes k lo hi s[n].toNat _ i1 i2 hhi hk (by omega)).mono ?_; rintro e w2 ⟨rfl, hb2⟩; have d0 := (hb2.cell (p := ⟨w1.heap.size, 0, none⟩) hlt).trans c0; have d1 := (hb2.cell (p := ⟨w1.heap.size, 1, none⟩) hlt).trans c1; have d2 := (hb2.cell (p := ⟨w1.heap.size, 2, none⟩) hlt).trans c2; have d3 := frozen_at (hb2.block w1.heap.size hlt) hcell)
            all_goals
              have d4 := (hb2.block w1.heap.size hlt).trans hcell
              clear d0 d1 d2 d3
              go_wp2
              go_roundw
              case rel =>
                refine ⟨n + 1, k - 1, 128, 191, by go_num, set3 d4 _ _ _, ?_, by omega, by omega, by omega, HS.out⟩
                exact (((hbw.drew.trans (hb2.mono hbw.size)).setCell (p := ⟨w1.heap.size, 0, none⟩) hw1s _).setCell (p := ⟨w1.heap.size, 1, none⟩) hw1s _).setCell (p := ⟨w1.heap.size, 2, none⟩) hw1s _
              case measure => simp [intOf]; omega
          · have HS : Hid (pc s.data.toList = (n, false)) := by
              unfold Hid
              rw [← HG.out, HD.out]
              match k, hk0 with
              | k + 1, _ => rw [pcg, if_neg hin]
            have hout : s[n].toNat < lo ∨ hi < s[n].toNat := by omega
            go_wp2_with fail
            go_region_with (go_at_call 52; refine (more_no k lo hi s[n].toNat _ hout).mono ?_; rintro e w2 ⟨rfl, hb2⟩; have d0 := (hb2.cell (p := ⟨w1.heap.size, 0, none⟩) hlt).trans c0; have d1 := (hb2.cell (p := ⟨w1.heap.size, 1, none⟩) hlt).trans c1; have d2 := (hb2.cell (p := ⟨w1.heap.size, 2, none⟩) hlt).trans c2; have d3 := frozen_at (hb2.block w1.heap.size hlt) hcell)
            all_goals
              clear d0 d1 d2 d3
              go_wp2
              go_ret2
              refine ⟨ret_two ?_ ?_, (((hbw.drew.trans (hb2.mono hbw.size)).setCell (p := ⟨w1.heap.size, 0, none⟩) hw1s _).setCell (p := ⟨w1.heap.size, 1, none⟩) hw1s _).setCell (p := ⟨w1.heap.size, 2, none⟩) hw1s _⟩
              · rw [HS.out]
              · rw [HS.out]
  · have hok' : okf c = false := by simpa using hok
    clear hok
    go_enter Tryd.func44, Tryd.ntmps44
    go_wp2_with fail
    refine (first_calls c _ hc256).mono ?_
    rw [hok']
    rintro e w1 ⟨rfl, hb1⟩
    go_wp2
    go_ret2
    refine ⟨ret_two ?_ ?_, hb1.alloc hb1.size _⟩
    · rw [HP.out, hok']; rfl
    · rw [HP.out, hok']; rfl
end Go.Proofs.YteffnlelmcbgmaaDoor
