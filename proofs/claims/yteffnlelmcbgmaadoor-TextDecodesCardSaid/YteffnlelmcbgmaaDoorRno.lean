/-
  Contracts of lacunaref01.Normal. The condition: the text takes at most 2 to the 24th bytes.
-/
import Derived.Test.YteffnlelmcbgmaaDoorByt
import Derived.Test.YteffnlelmcbgmaaDoorRva
set_option linter.unusedVariables false
namespace Go.Proofs.YteffnlelmcbgmaaDoor
open Go.RowKit Go.Shelf

/-- The ends of lines, byte by byte. -/
def nr2 : List UInt8 → List UInt8
  | [] => []
  | c :: r => (if c ≠ 13 then [c] else if r.head? = some 10 then [] else [10]) ++ nr2 r
theorem nrm_cons (c : UInt8) (r : List UInt8) (h : ¬ (c = 13 ∧ r.head? = some 10)) : nrm (c :: r) = (if c = 13 then 10 else c) :: nrm r := by
  unfold nrm; rw [crlf_cons c r h]; rfl
theorem nr2_nrm (n : Nat) (l : List UInt8) (hn : l.length ≤ n) : nr2 l = nrm l := by
  induction n generalizing l with
  | zero => rw [List.length_eq_zero_iff.1 (by omega : l.length = 0)]; rfl
  | succ n ih =>
    match l, hn with
    | [], _ => rfl
    | c :: r, hn =>
      have hl : r.length ≤ n := by simpa using hn
      by_cases h : c = 13 ∧ r.head? = some 10
      · obtain ⟨rfl, h10⟩ := h
        match r, h10, hl with
        | d :: r, h10, hl =>
          simp only [List.head?_cons, Option.some.injEq] at h10
          subst h10
          have e : nrm (13 :: 10 :: r) = 10 :: nrm r := by unfold nrm; rw [crlf_hit]; rfl
          rw [e, ← ih r (by simp at hl; omega)]
          simp [nr2]
      · rw [nrm_cons c r h, ← ih r hl]
        by_cases h13 : c = 13
        · have h10 : r.head? ≠ some 10 := fun e => h ⟨h13, e⟩
          simp [nr2, h13, h10]
        · simp [nr2, h13]
theorem nr2_at (s : ByteArray) (k : Nat) (hk : k < s.size) : nr2 (s.data.toList.drop k) = (if s[k] ≠ 13 then [s[k]] else if (s.data.toList.drop (k + 1)).head? = some 10 then [] else [10]) ++ nr2 (s.data.toList.drop (k + 1)) := by
  have : s.data.toList.drop k = s[k] :: s.data.toList.drop (k + 1) := List.drop_eq_getElem_cons (by simpa using hk)
  rw [this]; rfl

set_option maxRecDepth 100000 in
set_option maxHeartbeats 2000000 in
theorem normalR_calls (s : ByteArray) (hs : s.size ≤ 16777216) (w : World) :
    Calls Tryd.prog 18 #[.string s] w fun e w' => e = .returned (.string ⟨(nrm s.data.toList).toArray⟩) ∧ Below w.heap.size w w' := by
  go_enter Tryd.func18, Tryd.ntmps18
  go_wp2
  go_loopw [3, 4] (fun v i wr => ∃ (k : Nat) (acc : List UInt8), k ≤ s.size ∧ i = .int .i64 k ∧ OwnB w.heap.size v acc wr ∧ Below w.heap.size w wr ∧ acc.length ≤ k ∧ Hid (acc ++ nr2 (s.data.toList.drop k) = nrm s.data.toList)) (fun _ i _ => s.size - (intOf i).toNat)
  case atStart => exact ⟨0, [], by omega, rfl, OwnB.nil _ _, Below.refl _ _, by simp, by unfold Hid; rw [List.nil_append, List.drop_zero, nr2_nrm _ _ (Nat.le_refl _)]⟩
  case round =>
    obtain ⟨k, acc, hk, rfl, hB, hb, hal, HG⟩ := hrel
    have hsz := hb.size
    by_cases hlt : k < s.size
    · have HA := Lib.hid (nr2_at s k hlt)
      have HN1 := new_cells wr [s[k]]
      have HN2 := new_cells wr [10]
      by_cases h13 : s[k] = 13
      · have h13' : (((s[k].toNat : Nat) : Int) == 13) = true := by rw [h13]; rfl
        rw [if_neg (by simpa using h13)] at HA
        clear HN1
        by_cases hl : k + 1 = s.size
        · have hl' : (((k : Int) + 1) == (s.size : Int)) = true := by rw [beq_iff_eq]; omega
          rw [if_neg (by rw [List.drop_of_length_le (by simp; omega)]; simp)] at HA
          clear h13
          go_wp2_with (at_builtin; refine app_list rfl _ _ rfl w.heap.size _ _ rfl (hB.alloc _) ⟨wr.heap.size, 0, none⟩ 1 1 [10] rfl rfl HN2 (by omega) (by simp; omega) ?_; intro v' w1 hB1 hg1)
          go_wp2
          exact ⟨⟨k + 1, _, by omega, by go_num, hB1, (hB.alloc _).below (hb.alloc (by omega) _) (by simp; omega) hg1, by simp; omega, by unfold Hid; rw [← HG.out, HA.out, List.append_assoc]⟩, by simp [intOf]; omega⟩
        · have hl' : (((k : Int) + 1) == (s.size : Int)) = false := beq_eq_false_iff_ne.2 (by omega)
          have hl2 : k + 1 < s.size := by omega
          have hd : (s.data.toList.drop (k + 1)).head? = some s[k + 1] := by
            rw [List.drop_eq_getElem_cons (by simpa using hl2)]; rfl
          rw [hd] at HA
          by_cases h10 : s[k + 1] = 10
          · have h10' : (((s[k + 1].toNat : Nat) : Int) == 10) = true := by rw [h10]; rfl
            rw [if_pos (by rw [h10])] at HA
            clear h13 h10 hd HN2
            go_wp2
            exact ⟨⟨k + 1, _, by omega, by go_num, hB, hb, by omega, by unfold Hid; rw [← HG.out, HA.out]; rfl⟩, by simp [intOf]; omega⟩
          · have h10' : (((s[k + 1].toNat : Nat) : Int) == 10) = false := by
              rw [beq_eq_false_iff_ne]
              intro e
              exact h10 (UInt8.toNat_inj.1 (by show _ = 10; omega))
            rw [if_neg (by simpa using h10)] at HA
            clear h13 h10 hd
            go_wp2_with (at_builtin; refine app_list rfl _ _ rfl w.heap.size _ _ rfl (hB.alloc _) ⟨wr.heap.size, 0, none⟩ 1 1 [10] rfl rfl HN2 (by omega) (by simp; omega) ?_; intro v' w1 hB1 hg1)
            go_wp2
            exact ⟨⟨k + 1, _, by omega, by go_num, hB1, (hB.alloc _).below (hb.alloc (by omega) _) (by simp; omega) hg1, by simp; omega, by unfold Hid; rw [← HG.out, HA.out, List.append_assoc]⟩, by simp [intOf]; omega⟩
      · have h13' : (((s[k].toNat : Nat) : Int) == 13) = false := by
          rw [beq_eq_false_iff_ne]
          intro e
          exact h13 (UInt8.toNat_inj.1 (by show _ = 13; omega))
        rw [if_pos h13] at HA
        clear h13 HN2
        go_wp2_with (at_builtin; refine app_list rfl _ _ rfl w.heap.size _ _ rfl (hB.alloc _) ⟨wr.heap.size, 0, none⟩ 1 1 [s[k]] rfl rfl HN1 (by omega) (by simp; omega) ?_; intro v' w1 hB1 hg1)
        go_wp2
        exact ⟨⟨k + 1, _, by omega, by go_num, hB1, (hB.alloc _).below (hb.alloc (by omega) _) (by simp; omega) hg1, by simp; omega, by unfold Hid; rw [← HG.out, HA.out, List.append_assoc]⟩, by simp [intOf]; omega⟩
    · obtain rfl : k = s.size := by omega
      have hconv := hB.text
      go_wp2
      go_ret
      refine ⟨ret_str ?_, hb⟩
      rw [← HG.out, List.drop_of_length_le (by simp)]
      simp [nr2]
end Go.Proofs.YteffnlelmcbgmaaDoor
