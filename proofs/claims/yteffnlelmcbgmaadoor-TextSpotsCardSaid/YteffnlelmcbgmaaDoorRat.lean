/-
  The contract of lacunaref01.At: it answers as text.At. The condition: the text takes at most 2 to the 24th bytes.
-/
import Derived.Test.YteffnlelmcbgmaaDoorRfg
import Derived.Test.YteffnlelmcbgmaaDoorAt
set_option linter.unusedVariables false
namespace Go.Proofs.YteffnlelmcbgmaaDoor
open Go.RowKit Go.Shelf

theorem lastIdx_cut (s x : ByteArray) (n : Nat) (hx : s.extract 0 n = x) (hn : n ≤ s.size) (k : Nat) (hk : k ≤ n) : Lib.lastIdx x 10 k = Lib.lastIdx s 10 k := by
  induction k with
  | zero => rfl
  | succ k ih =>
    have e : x.data[k]! = s.data[k]! := by
      have h1 : k < x.size := by rw [← hx]; simp; omega
      rw [LastIndex.byteBang x k h1, LastIndex.byteBang s k (by omega)]
      have e1 := getD_get x k h1
      have e2 := getD_get s k (by omega)
      rw [← e1, ← e2, ← hx, Lib.extract_data]
      simp only [List.getD, List.drop_zero, Nat.sub_zero]
      rw [List.getElem?_take, if_pos (by omega)]
    unfold Lib.lastIdx
    rw [e, ih (by omega)]
theorem count_snoc (s : ByteArray) (k : Nat) (hk : k < s.size) : Lib.countByte (s.data.toList.take (k + 1)) 10 = Lib.countByte (s.data.toList.take k) 10 + (if s[k] = 10 then 1 else 0) := by
  unfold Lib.countByte
  rw [List.take_succ_eq_append_getElem (by simpa using hk), List.count_append]
  congr 1
  have : s.data.toList[k]'(by simpa using hk) = s[k] := rfl
  rw [this]
  by_cases h : s[k] = 10
  · rw [if_pos h, h]; rfl
  · rw [if_neg h]; simp [h]
theorem lastIdx_step (s : ByteArray) (k : Nat) (hk : k < s.size) : Lib.lastIdx s 10 (k + 1) = if s[k] = 10 then (k : Int) else Lib.lastIdx s 10 k := by
  show (if ((s.data[k]!).toNat : Int) = 10 then (k : Int) else Lib.lastIdx s 10 k) = _
  rw [LastIndex.byteBang s k hk]
  by_cases h : s[k] = 10
  · rw [if_pos h, if_pos (by rw [h]; rfl)]
  · rw [if_neg h, if_neg]
    intro e
    exact h (UInt8.toNat_inj.1 (by show _ = 10; omega))
theorem lastIdx_range (s : ByteArray) (k : Nat) : -1 ≤ Lib.lastIdx s 10 k ∧ Lib.lastIdx s 10 k < k := by
  rcases Lib.lastIdx_spec s 10 k with ⟨h, _⟩ | ⟨i, hi, h, _⟩ <;> rw [h] <;> omega

set_option maxRecDepth 100000 in
set_option maxHeartbeats 2000000 in
theorem atR_out (s : ByteArray) (at_ : Int) (h : at_ < 0 ∨ (s.size : Int) < at_) (w : World) :
    Calls Tryd.prog 11 #[.string s, .int .i64 at_] w fun e w' => e = .returned (.tuple #[.agg #[.int .i64 0, .int .i64 0], .int .i64 10]) ∧ Below w.heap.size w w' := by
  rcases h with h | h
  · go_enter Tryd.func11, Tryd.ntmps11
    go_wp2
    exact bodyPost_ret (v := .tuple #[.agg #[.int .i64 0, .int .i64 0], .int .i64 10]) (by simp [results, Tryd.results11, go_sem]) rfl ⟨rfl, (Below.refl _ w).alloc (Nat.le_refl _) _⟩
  · have h2 : ¬ at_ < 0 := by omega
    go_enter Tryd.func11, Tryd.ntmps11
    go_wp2
    exact bodyPost_ret (v := .tuple #[.agg #[.int .i64 0, .int .i64 0], .int .i64 10]) (by simp [results, Tryd.results11, go_sem]) rfl ⟨rfl, (Below.refl _ w).alloc (Nat.le_refl _) _⟩

set_option maxRecDepth 100000 in
set_option maxHeartbeats 2000000 in
theorem atR_in (s : ByteArray) (n : Nat) (hn : n ≤ s.size) (hs : s.size ≤ 16777216) (w : World) :
    Calls Tryd.prog 11 #[.string s, .int .i64 n] w fun e w' => e = .returned (.tuple #[.agg #[.int .i64 (lineOf (s.extract 0 n)), .int .i64 (colOf (s.extract 0 n))], .int .i64 0]) ∧ Below w.heap.size w w' := by
  have h0 : ¬ ((n : Int) < 0) := by omega
  have h1 : ¬ ((s.size : Int) < n) := by omega
  obtain ⟨x, hx⟩ : ∃ x, s.extract 0 n = x := ⟨_, rfl⟩
  have hxl : x.data.toList = s.data.toList.take n := by rw [← hx, Lib.extract_data]; simp
  have hxs : x.size = n := by rw [← hx]; simp; omega
  have HLI : Hid (lineOf x = 1 + Lib.countByte (s.data.toList.take n) 10) := by unfold Hid lineOf; rw [hxl]
  have HFR : Hid (((frm x : Nat) : Int) = Lib.lastIdx s 10 n + 1) := by
    unfold Hid
    rw [← (frm_le x).2]
    unfold Lib.lastIndexByte
    rw [hxs, lastIdx_cut s x n hx hn n (Nat.le_refl _)]
  have hfl := (frm_le x).1
  rw [hxs] at hfl
  have HCO : Hid (colOf x = (pts (s.extract (frm x) n).data.toList).length + 1) := by
    unfold Hid colOf
    rw [hxl, Lib.extract_data, List.drop_take]
  rw [hx]
  clear hxl hxs hx
  generalize frm x = fx at *
  generalize colOf x = cx at *
  generalize lineOf x = lx at *
  go_enter Tryd.func11, Tryd.ntmps11
  go_wp2
  have hR0 : (w.alloc (.cells #[.int .i64 0, .int .i64 0] 24)).heap[w.heap.size]? = some (.cells #[.int .i64 0, .int .i64 0] 24 (0, 0)) := heap_alloc_new w _
  have hb0 : Below w.heap.size w (w.alloc (.cells #[.int .i64 0, .int .i64 0] 24)) := (Below.refl _ w).alloc (Nat.le_refl _) _
  generalize hW : World.alloc _ _ = W at *
  have hWs : W.heap.size = w.heap.size + 1 := by rw [← hW]; simp
  clear hW
  go_loop [6, 7, 8] (fun v6 v7 v8 => ∃ k : Nat, k ≤ n ∧ v8 = .int .i64 k ∧ v6 = .int .i64 ((1 + Lib.countByte (s.data.toList.take k) 10 : Nat) : Int) ∧ v7 = .int .i64 (Lib.lastIdx s 10 k + 1)) (fun _ _ v8 => n - (intOf v8).toNat)
  case atStart => exact ⟨0, by omega, rfl, by simp [Lib.countByte], rfl⟩
  case round =>
    obtain ⟨k, hk, rfl, rfl, rfl⟩ := hrel
    have hcl : Lib.countByte (s.data.toList.take k) 10 ≤ k := Nat.le_trans List.count_le_length (List.length_take_le _ _)
    by_cases hlt : k < n
    · have hlt' : (k : Int) < n := by omega
      have hks : k < s.size := by omega
      have HCS := Lib.hid (count_snoc s k hks)
      have HLS := Lib.hid (lastIdx_step s k hks)
      generalize Lib.countByte (s.data.toList.take k) 10 = q at *
      by_cases h10 : s[k] = 10
      · have h10' : (((s[k].toNat : Nat) : Int) == 10) = true := by rw [h10]; rfl
        rw [if_pos h10] at HCS HLS
        clear h10
        go_wp2
        exact ⟨⟨k + 1, by omega, by go_num, by rw [HCS.out]; go_num, by rw [HLS.out]⟩, by simp [intOf]; omega⟩
      · have h10' : (((s[k].toNat : Nat) : Int) == 10) = false := by
          rw [beq_eq_false_iff_ne]
          intro e
          exact h10 (UInt8.toNat_inj.1 (by show _ = 10; omega))
        rw [if_neg h10] at HCS HLS
        clear h10
        go_wp2
        exact ⟨⟨k + 1, by omega, by go_num, by rw [HCS.out]; rfl, by rw [HLS.out]⟩, by simp [intOf]; omega⟩
    · obtain rfl : k = n := by omega
      rw [← HLI.out, ← HFR.out]
      have hlx : lx ≤ k + 1 := by rw [HLI.out]; omega
      have HPT : Hid (∀ w, Calls Tryd.prog 30 #[.string (s.extract fx k)] w fun e w' => ∃ v, e = .returned v ∧ OwnP w.heap.size v (pts (s.extract fx k).data.toList) w' ∧ Below w.heap.size w w') :=
        fun w => pointsR_calls (s.extract fx k) (by simp; omega) w
      have hpl := pts_le (s.extract fx k).data.toList
      rw [show (s.extract fx k).data.toList.length = (s.extract fx k).size from Array.length_toList] at hpl
      have hps : (s.extract fx k).size ≤ 16777216 := by simp; omega
      generalize pts (s.extract fx k).data.toList = P at *
      clear hcl
      go_wp2_with fail
      refine (HPT.out _).mono ?_
      rintro e w1 ⟨v, rfl, hP, hb1⟩
      obtain ⟨a, c, rfl, _⟩ := hP.shape
      have hb2 := hb0.trans (hb1.mono (by omega))
      have hR1 : w1.heap[w.heap.size]? = _ := (hb1.block _ (by omega)).trans hR0
      have r0 : w1.cell? ⟨w.heap.size, 0, none⟩ = some (.int .i64 0) := by rw [cell_of_heap' hR1]; rfl
      have r1 : w1.cell? ⟨w.heap.size, 1, none⟩ = some (.int .i64 0) := by rw [cell_of_heap' hR1]; rfl
      have rf : ∀ j, w1.frozen? ⟨w.heap.size, j, none⟩ = false := frozen_at rfl hR1
      have hcx : ((P.length : Nat) : Int) + 1 = (cx : Nat) := by rw [HCO.out]; omega
      clear hP HPT hb0 hb1 hR0 HCO
      go_wp2
      generalize hW3 : World.setCell _ _ _ = W3
      have hR3 : W3.heap[w.heap.size]? = some (.cells #[.int .i64 lx, .int .i64 cx] 24 (0, 0)) := by
        rw [← hW3, ← hcx]
        simp [World.setCell, Array.getElem?_modify, hR1]
      have hb3 : Below w.heap.size w W3 := by
        rw [← hW3]
        exact (hb2.setCell (p := ⟨w.heap.size, 0, none⟩) (by simp) _).setCell (p := ⟨w.heap.size, 1, none⟩) (by simp) _
      have g0 : W3.cell? ⟨w.heap.size, 0, none⟩ = some (.int .i64 lx) := by rw [cell_of_heap' hR3]; rfl
      have g1 : W3.cell? ⟨w.heap.size, 1, none⟩ = some (.int .i64 cx) := by rw [cell_of_heap' hR3]; rfl
      exact bodyPost_ret (v := .tuple #[.agg #[.int .i64 lx, .int .i64 cx], .int .i64 0]) (by simp [results, Tryd.results11, go_sem, g0, g1]) rfl ⟨rfl, hb3⟩
end Go.Proofs.YteffnlelmcbgmaaDoor
