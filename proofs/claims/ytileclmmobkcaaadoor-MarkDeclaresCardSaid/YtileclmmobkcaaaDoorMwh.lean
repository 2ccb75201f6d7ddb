/-
  A plain law: replacing the byte 0 by U+FFFD is what the standard's states write byte by byte; cutting at a byte. No program in sight, no condition.
-/
import Derived.Test.YtileclmmobkcaaaDoorMkd
import Derived.Test.YtileclmmobkcaaaDoorNrm
import Derived.Lib.IndexBytes
namespace Go.Proofs.YtileclmmobkcaaaDoor
open Go.Lib

theorem occ_byte (s : List UInt8) (c : UInt8) (j : Nat) : occAt s [c] j = true ↔ s[j]? = some c := by
  unfold occAt
  have e : (s.drop j)[0]? = s[j]? := by rw [List.getElem?_drop, Nat.add_zero]
  match hd : s.drop j with
  | [] => rw [hd] at e; simp [List.isPrefixOf, ← e]
  | a :: r =>
    rw [hd] at e
    simp [List.isPrefixOf, ← e]
    exact ⟨fun h => h.symm, fun h => h.symm⟩
theorem index_byte_none (s : List UInt8) (c : UInt8) (h : ∀ j, j ≤ s.length → occAt s [c] j = false) : c ∉ s := by
  intro hm
  obtain ⟨j, hj, hj2⟩ := List.getElem_of_mem hm
  have h1 := h j (by omega)
  have h2 := (occ_byte s c j).2 (by rw [List.getElem?_eq_getElem hj, hj2])
  rw [h1] at h2; cases h2
theorem index_byte_some (s : List UInt8) (c : UInt8) (i : Nat) (h : occAt s [c] i = true) (hn : NoOcc s [c] i) : ∃ r, s = s.take i ++ c :: r ∧ c ∉ s.take i ∧ i < s.length := by
  have h1 := (occ_byte s c i).1 h
  have hi : i < s.length := by
    rcases Nat.lt_or_ge i s.length with h2 | h2
    · exact h2
    · rw [List.getElem?_eq_none h2] at h1; cases h1
  rw [List.getElem?_eq_getElem hi] at h1
  injection h1 with h1
  refine ⟨s.drop (i + 1), ?_, ?_, hi⟩
  · rw [← h1, ← List.drop_eq_getElem_cons hi, List.take_append_drop]
  · intro hm
    obtain ⟨j, hj, hj2⟩ := List.getElem_of_mem hm
    rw [List.getElem_take] at hj2
    simp at hj
    have h3 := hn j (by omega)
    have h4 := (occ_byte s c j).2 (by rw [List.getElem?_eq_getElem (by omega), hj2])
    rw [h3] at h4; cases h4
theorem wh_replace (n : Nat) : ∀ s : List UInt8, s.length ≤ n → replaceAll s [0] [239, 191, 189] = wh s := by
  induction n with
  | zero =>
    intro s hn
    obtain rfl : s = [] := List.length_eq_zero_iff.1 (by omega)
    rw [replaceAll_miss _ _ _ (by decide) (by decide)]; rfl
  | succ n ih =>
    intro s hn
    rcases index_spec s [0] with ⟨h1, h2⟩ | ⟨i, h1, h2, h3, h4⟩
    · rw [replaceAll_miss _ _ _ (by decide) h1, wh_self s (index_byte_none s 0 h2)]
    · obtain ⟨r, hr, hz, hi⟩ := index_byte_some s 0 i h3 h4
      rw [replaceAll_hit s _ _ i (by decide) (by decide) h1]
      have hd : s.drop (i + ([0] : List UInt8).length) = r := by
        have : (s.take i).length = i := by simp; omega
        conv => lhs; rw [hr]
        rw [List.drop_append, this]
        simp
        omega
      rw [hd, ih r (by rw [hr] at hn; simp at hn; omega)]
      conv => rhs; rw [hr]
      rw [wh_append, wh_cons, wh_self _ hz]
      simp [whB]
theorem tw_no (l : List UInt8) (h : 62 ∉ l) : tw l = l := by
  induction l with
  | nil => rfl
  | cons c l ih =>
    have hc : c ≠ 62 := fun e => h (by rw [e]; exact List.mem_cons_self ..)
    have := ih (fun h2 => h (List.mem_cons_of_mem _ h2))
    unfold tw at this ⊢
    rw [List.takeWhile_cons_of_pos (by simpa using hc), this]
/-- strings.Cut at a >. -/
theorem cut_bg (r : List UInt8) : cut r [62] = (tw r, (cut r [62]).2.1, decide (62 ∈ r)) ∧ (tw r).length ≤ r.length := by
  constructor
  · unfold cut
    rcases index_spec r [62] with ⟨h1, h2⟩ | ⟨i, h1, h2, h3, h4⟩
    · have hn := index_byte_none r 62 h2
      rw [h1, if_neg (by omega), decide_eq_false hn]
      dsimp only
      rw [tw_no r hn]
    · obtain ⟨r', hr, hz, hi⟩ := index_byte_some r 62 i h3 h4
      rw [h1, if_pos (by omega)]
      have hm : 62 ∈ r := by rw [hr]; simp
      rw [decide_eq_true hm]
      dsimp only
      congr 1
      unfold tw
      rw [Int.toNat_natCast]
      conv => rhs; rw [hr]
      rw [(tw_all _ (r.take i) r' 62 (fun c hc => by simp only [bne_iff_ne, ne_eq]; rintro rfl; exact hz hc) (by decide)).1]
  · exact (List.takeWhile_prefix _).length_le
end Go.Proofs.YtileclmmobkcaaaDoor
