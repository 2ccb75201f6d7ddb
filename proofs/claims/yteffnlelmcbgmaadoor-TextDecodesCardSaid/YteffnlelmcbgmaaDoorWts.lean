/-
  The contract of text.waits: where the last piece begins, if it could go on; else how many bytes there are. The condition: the bytes take at most 2 to the 60th bytes.
-/
import Derived.Test.YteffnlelmcbgmaaDoorTxb
import Derived.Test.YteffnlelmcbgmaaDoorWtm
set_option linter.unusedVariables false
namespace Go.Proofs.YteffnlelmcbgmaaDoor
open Go.RowKit

theorem cell_set3_0 {w : World} {b : Nat} {x y z : Value} {T : TypeId} {fr : Nat × Nat} (h : w.heap[b]? = some (.cells #[x, y, z] T fr)) (x' y' z' : Value) :
    (((w.setCell ⟨b, 0, none⟩ x').setCell ⟨b, 1, none⟩ y').setCell ⟨b, 2, none⟩ z').cell? ⟨b, 0, none⟩ = some x' := by
  rw [cell_of_heap' (set3 h x' y' z')]; rfl

set_option maxRecDepth 100000 in
set_option maxHeartbeats 2000000 in
theorem waits_calls (s : ByteArray) (w : World) (hs : s.size ≤ 1152921504606846976) :
    Calls Tryd.prog 36 #[.string s] w fun e w' => e = .returned (.int .i64 (waitsP s.data.toList)) ∧ Below w.heap.size w w' := by
  go_enter Tryd.func36, Tryd.ntmps36
  go_wp2
  all_goals
    go_loopw [3] (fun i wr => ∃ n : Nat, i = .int .i64 n ∧ n ≤ 3 ∧ n ≤ s.size ∧ Below w.heap.size w wr ∧ Hid (waitsF s.data.toList n = waitsP s.data.toList)) (fun i _ => (intOf i).toNat)
    case atStart => first | exact ⟨s.size, rfl, by omega, Nat.le_refl _, Below.refl _ w, by unfold Hid waitsP; congr 1; simp; omega⟩ | exact ⟨3, rfl, by omega, by omega, Below.refl _ w, by unfold Hid waitsP; congr 1; simp; omega⟩
    case round =>
      obtain ⟨n, rfl, hn3, hns, hbw, HW⟩ := hrel
      have hsz := hbw.size
      by_cases hn0 : n = 0
      · subst hn0
        go_wp2
        go_ret
        exact ⟨by rw [← HW.out]; simp [waitsF], hbw⟩
      · have hn1 : (0 : Int) < n := by omega
        obtain ⟨k0, hk0⟩ : ∃ k0, s.size - n = k0 := ⟨_, rfl⟩
        have hk0' : (s.size : Int) - n = k0 := by omega
        have hlt : k0 < s.size := by omega
        have hcl := s[k0].toNat_lt
        have HH : Hid (hangs (s.data.toList.drop k0) = (okf s[k0].toNat && hang (nd s[k0].toNat) (lof s[k0].toNat) (hif s[k0].toNat) (s.data.toList.drop (k0 + 1)))) := by
          unfold Hid; rw [List.drop_eq_getElem_cons (by simpa using hlt)]; rfl
        have HY : Hid (hangs (s.data.toList.drop k0) = true → k0 = waitsP s.data.toList) := by
          intro h
          rw [← HW.out]
          match n, hn0 with
          | m + 1, _ => rw [waitsF, show s.data.toList.length - (m + 1) = k0 by simp; omega, if_pos h]
        have HN : Hid (hangs (s.data.toList.drop k0) = false → waitsF s.data.toList (n - 1) = waitsP s.data.toList) := by
          intro h
          rw [← HW.out]
          match n, hn0 with
          | m + 1, _ =>
            have e : waitsF s.data.toList (m + 1) = if hangs (s.data.toList.drop (s.data.toList.length - (m + 1))) then s.data.toList.length - (m + 1) else waitsF s.data.toList m := rfl
            rw [e, show s.data.toList.length - (m + 1) = k0 by simp; omega, if_neg (by simp [h])]
            rfl
        have hnd := nd_le s[k0].toNat
        have hhi := lo_hi_lt s[k0].toNat
        clear hk0 HW hn0
        generalize hangs (s.data.toList.drop k0) = H at HH HY HN
        go_wp2_with fail
        refine (first_calls s[k0].toNat _ hcl).mono ?_
        rintro e w1 ⟨rfl, hb1⟩
        have hbw1 := hbw.trans (hb1.mono hsz)
        have hsz1 := hbw1.size
        clear hb1
        obtain ⟨wo, hwo⟩ : ∃ wo : World, w1 = wo := ⟨_, rfl⟩
        subst hwo
        generalize okf s[k0].toNat = okb at HH
        generalize nd s[k0].toNat = kk at HH hnd
        generalize lof s[k0].toNat = lo0 at HH
        generalize hif s[k0].toNat = hi0 at HH hhi
        have hnew := heap_alloc_new w1 (.cells #[.int .i64 kk, .int .u8 lo0, .int .u8 hi0] 70)
        have hb2 := hbw1.alloc hsz1 (.cells #[.int .i64 kk, .int .u8 lo0, .int .u8 hi0] 70)
        go_wp2_with fail
        go_loopw [6, 7] (fun o i wr => ∃ (j k lo hi : Nat) (okb : Bool), o = .bool okb ∧ i = .int .i64 j ∧ wr.heap[w1.heap.size]? = some (.cells #[.int .i64 k, .int .u8 lo, .int .u8 hi] 70 (0, 0)) ∧ Below w.heap.size w wr ∧ j ≤ s.size ∧ k ≤ 3 ∧ hi < 256 ∧ Hid (H = (okb && hang k lo hi (s.data.toList.drop j)))) (fun _ i _ => s.size - (intOf i).toNat)
        case atStart => exact ⟨k0 + 1, kk, lo0, hi0, okb, rfl, by go_num, hnew, hb2, by omega, hnd, hhi, HH⟩
        case round =>
          obtain ⟨j, k, lo, hi, okc, rfl, rfl, hcell, hbr, hj, hk, hhi', HG⟩ := hrel
          clear hnew hb2 HH
          have hltb : w1.heap.size < wr.heap.size := (Array.getElem?_eq_some_iff.1 hcell).1
          have c0 : wr.cell? ⟨w1.heap.size, 0, none⟩ = some (.int .i64 k) := by rw [cell_of_heap' hcell]; rfl
          have c1 : wr.cell? ⟨w1.heap.size, 1, none⟩ = some (.int .u8 lo) := by rw [cell_of_heap' hcell]; rfl
          have c2 : wr.cell? ⟨w1.heap.size, 2, none⟩ = some (.int .u8 hi) := by rw [cell_of_heap' hcell]; rfl
          cases okc with
          | false =>
            have HF := Lib.hid (HN.out (by rw [HG.out]; rfl))
            go_wp2
            go_roundw
            case rel => exact ⟨n - 1, by rw [← Int.natCast_one, ← Int.natCast_sub (by omega)], by omega, by omega, hbr, HF.out⟩
            case measure => simp [intOf]; omega
          | true =>
            by_cases hk0 : k = 0
            · subst hk0
              have HF := Lib.hid (HN.out (by rw [HG.out]; rfl))
              go_wp2
              go_roundw
              case rel => exact ⟨n - 1, by rw [← Int.natCast_one, ← Int.natCast_sub (by omega)], by omega, by omega, hbr, HF.out⟩
              case measure => simp [intOf]; omega
            · have hk1 : (0 : Int) < k := by omega
              by_cases hjs : j = s.size
              · have HT := Lib.hid (HY.out (by
                  rw [HG.out, hjs, List.drop_of_length_le (by simp)]
                  match k, hk0 with
                  | k + 1, _ => rfl))
                have hjs' : (s.size : Int) ≤ j := by omega
                clear hjs
                go_wp2
                go_ret
                exact ⟨ret_i64 (by rw [← HT.out]), hbr⟩
              · have hjl : j < s.size := by omega
                have hxl := s[j].toNat_lt
                have HD : Hid (s.data.toList.drop j = s[j] :: s.data.toList.drop (j + 1)) := by
                  unfold Hid; rw [List.drop_eq_getElem_cons (by simpa using hjl)]; rfl
                clear hjs
                by_cases hin : lo ≤ s[j].toNat ∧ s[j].toNat ≤ hi
                · have HS : Hid (H = (true && hang (k - 1) 128 191 (s.data.toList.drop (j + 1)))) := by
                    unfold Hid
                    rw [HG.out, HD.out]
                    match k, hk0 with
                    | k + 1, _ => simp [hang, hin]
                  obtain ⟨i1, i2⟩ := hin
                  by_cases hz : k = 1 ∧ j + 1 < s.size
                  · obtain ⟨rfl, hz2⟩ := hz
                    have HS2 : Hid (H = (false && hang 0 128 191 (s.data.toList.drop (j + 1)))) := by unfold Hid; rw [HS.out]; rfl
                    have hz3 : (j : Int) + 1 < s.size := by omega
                    go_wp2_with fail
                    go_region_with (go_at_call 52; refine (more_yes 1 lo hi s[j].toNat _ i1 i2 hhi' (by omega) (by omega)).mono ?_; rintro e w2 ⟨rfl, hb2⟩; have d0 := (hb2.cell (p := ⟨w1.heap.size, 0, none⟩) hltb).trans c0; have d1 := (hb2.cell (p := ⟨w1.heap.size, 1, none⟩) hltb).trans c1; have d2 := (hb2.cell (p := ⟨w1.heap.size, 2, none⟩) hltb).trans c2; have d3 := frozen_at (hb2.block w1.heap.size hltb) hcell)
                    all_goals
                      have d4 := (hb2.block w1.heap.size hltb).trans hcell
                      have hbn := (((hbr.drew.trans (hb2.mono hbr.size)).setCell (p := ⟨w1.heap.size, 0, none⟩) hsz1 (.int .i64 0)).setCell (p := ⟨w1.heap.size, 1, none⟩) hsz1 (.int .u8 128)).setCell (p := ⟨w1.heap.size, 2, none⟩) hsz1 (.int .u8 191)
                      have e0 := cell_set3_0 d4 (.int .i64 0) (.int .u8 128) (.int .u8 191)
                      clear d0 d1 d2 d3
                      go_wp2
                      go_roundw
                      case rel => exact ⟨j + 1, 0, 128, 191, false, rfl, by go_num, set3 d4 _ _ _, hbn, by omega, by omega, by omega, HS2.out⟩
                      case measure => simp [intOf]; omega
                  · by_cases hk1' : k = 1
                    · subst hk1'
                      have hz3 : (s.size : Int) ≤ (j : Int) + 1 := by omega
                      clear hz
                      go_wp2_with fail
                      go_region_with (go_at_call 52; refine (more_yes 1 lo hi s[j].toNat _ i1 i2 hhi' (by omega) (by omega)).mono ?_; rintro e w2 ⟨rfl, hb2⟩; have d0 := (hb2.cell (p := ⟨w1.heap.size, 0, none⟩) hltb).trans c0; have d1 := (hb2.cell (p := ⟨w1.heap.size, 1, none⟩) hltb).trans c1; have d2 := (hb2.cell (p := ⟨w1.heap.size, 2, none⟩) hltb).trans c2; have d3 := frozen_at (hb2.block w1.heap.size hltb) hcell)
                      all_goals
                        have d4 := (hb2.block w1.heap.size hltb).trans hcell
                        have hbn := (((hbr.drew.trans (hb2.mono hbr.size)).setCell (p := ⟨w1.heap.size, 0, none⟩) hsz1 (.int .i64 0)).setCell (p := ⟨w1.heap.size, 1, none⟩) hsz1 (.int .u8 128)).setCell (p := ⟨w1.heap.size, 2, none⟩) hsz1 (.int .u8 191)
                        have e0 := cell_set3_0 d4 (.int .i64 0) (.int .u8 128) (.int .u8 191)
                        clear d0 d1 d2 d3
                        go_wp2
                        go_roundw
                        case rel => exact ⟨j + 1, 0, 128, 191, true, rfl, by go_num, set3 d4 _ _ _, hbn, by omega, by omega, by omega, HS.out⟩
                        case measure => simp [intOf]; omega
                    · have hkb : (((k - 1 : Nat) : Int) == 0) = false := beq_eq_false_iff_ne.2 (by omega)
                      have hkp : (0 : Int) < ((k - 1 : Nat) : Int) := by omega
                      clear hz
                      go_wp2_with fail
                      go_region_with (go_at_call 52; refine (more_yes k lo hi s[j].toNat _ i1 i2 hhi' hk (by omega)).mono ?_; rintro e w2 ⟨rfl, hb2⟩; have d0 := (hb2.cell (p := ⟨w1.heap.size, 0, none⟩) hltb).trans c0; have d1 := (hb2.cell (p := ⟨w1.heap.size, 1, none⟩) hltb).trans c1; have d2 := (hb2.cell (p := ⟨w1.heap.size, 2, none⟩) hltb).trans c2; have d3 := frozen_at (hb2.block w1.heap.size hltb) hcell)
                      all_goals
                        have d4 := (hb2.block w1.heap.size hltb).trans hcell
                        have hbn := (((hbr.drew.trans (hb2.mono hbr.size)).setCell (p := ⟨w1.heap.size, 0, none⟩) hsz1 (.int .i64 (k - 1 : Nat))).setCell (p := ⟨w1.heap.size, 1, none⟩) hsz1 (.int .u8 128)).setCell (p := ⟨w1.heap.size, 2, none⟩) hsz1 (.int .u8 191)
                        have e0 := cell_set3_0 d4 (.int .i64 (k - 1 : Nat)) (.int .u8 128) (.int .u8 191)
                        clear d0 d1 d2 d3
                        go_wp2
                        go_roundw
                        case rel => exact ⟨j + 1, k - 1, 128, 191, true, rfl, by go_num, set3 d4 _ _ _, hbn, by omega, by omega, by omega, HS.out⟩
                        case measure => simp [intOf]; omega
                · have hout : s[j].toNat < lo ∨ hi < s[j].toNat := by omega
                  have HS : Hid (H = (false && hang k lo hi (s.data.toList.drop (j + 1)))) := by
                    unfold Hid
                    rw [HG.out, HD.out]
                    match k, hk0 with
                    | k + 1, _ => simp [hang, hin]
                  have hkb : ((k : Int) == 0) = false := beq_eq_false_iff_ne.2 (by omega)
                  go_wp2_with fail
                  go_region_with (go_at_call 52; refine (more_no k lo hi s[j].toNat _ hout).mono ?_; rintro e w2 ⟨rfl, hb2⟩; have d0 := (hb2.cell (p := ⟨w1.heap.size, 0, none⟩) hltb).trans c0; have d1 := (hb2.cell (p := ⟨w1.heap.size, 1, none⟩) hltb).trans c1; have d2 := (hb2.cell (p := ⟨w1.heap.size, 2, none⟩) hltb).trans c2; have d3 := frozen_at (hb2.block w1.heap.size hltb) hcell)
                  all_goals
                    have d4 := (hb2.block w1.heap.size hltb).trans hcell
                    have hbn := (((hbr.drew.trans (hb2.mono hbr.size)).setCell (p := ⟨w1.heap.size, 0, none⟩) hsz1 (.int .i64 k)).setCell (p := ⟨w1.heap.size, 1, none⟩) hsz1 (.int .u8 lo)).setCell (p := ⟨w1.heap.size, 2, none⟩) hsz1 (.int .u8 hi)
                    have e0 := cell_set3_0 d4 (.int .i64 k) (.int .u8 lo) (.int .u8 hi)
                    clear d0 d1 d2 d3
                    go_wp2
                    go_roundw
                    case rel => exact ⟨j + 1, k, lo, hi, false, rfl, by go_num, set3 d4 _ _ _, hbn, by omega, by omega, by omega, HS.out⟩
                    case measure => simp [intOf]; omega
end Go.Proofs.YteffnlelmcbgmaaDoor
