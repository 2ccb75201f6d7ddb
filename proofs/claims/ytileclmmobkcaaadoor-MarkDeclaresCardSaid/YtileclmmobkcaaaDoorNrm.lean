/-
  Plain laws on lines: replacing 13 10 by 10 and then 13 by 10 is the ending of lines by 10. No program in sight, no condition.
-/
import Derived.Lib.Replace
import Derived.Lib.IndexMore
import Derived.Lib.ReplaceLaws
namespace Go.Proofs.YtileclmmobkcaaaDoor
open Go.Lib

theorem countFrom_fuel (sub : List UInt8) (h : 1 ≤ sub.length) (f g : Nat) (s : List UInt8) (hf : s.length < f) (hg : s.length < g) : countFrom sub f s = countFrom sub g s := by
  induction f generalizing g s with
  | zero => omega
  | succ f ih =>
    match g, hg with
    | g + 1, hg =>
      unfold countFrom
      split
      · rfl
      · rename_i hi
        have hi' : index s sub ≠ -1 := fun e => hi (by rw [e]; rfl)
        have hge := index_ge s sub
        have hroom := index_room s sub (by omega)
        congr 1
        exact ih g _ (by simp; omega) (by simp; omega)
theorem replaceAll_miss (s old new : List UInt8) (hne : (old == new) = false) (h : index s old = -1) : replaceAll s old new = s := by
  unfold replaceAll replace
  rw [if_neg (by simp [hne])]
  match replaceNum s old (-1) with
  | 0 => rfl
  | k + 1 => rw [replaceK, if_pos (by rw [h]; rfl)]
theorem replaceAll_hit (s old new : List UInt8) (i : Nat) (hne : (old == new) = false) (hold : 1 ≤ old.length) (h : index s old = i) :
    replaceAll s old new = s.take i ++ new ++ replaceAll (s.drop (i + old.length)) old new := by
  unfold replaceAll replace
  rw [if_neg (by simp [hne]), if_neg (by simp [hne])]
  have e1 : replaceNum s old (-1) = count s old := by unfold replaceNum; rw [if_pos (.inl (by omega))]
  have e2 : replaceNum (s.drop (i + old.length)) old (-1) = count (s.drop (i + old.length)) old := by unfold replaceNum; rw [if_pos (.inl (by omega))]
  have hroom := index_room s old (by omega)
  have e3 : count s old = count (s.drop (i + old.length)) old + 1 := by
    unfold count
    conv => lhs; unfold countFrom
    rw [if_neg (by rw [h]; simp), h]
    have : ((i : Int)).toNat = i := by omega
    rw [this, countFrom_fuel old hold s.length ((s.drop (i + old.length)).length + 1) _ (by simp; omega) (by omega)]
    omega
  rw [e1, e2, e3, replaceK_hit _ _ _ _ i h]

/-- 13 10 as 10. -/
def crlf : List UInt8 → List UInt8
  | [] => []
  | [c] => [c]
  | c :: d :: r => if c = 13 ∧ d = 10 then 10 :: crlf r else c :: crlf (d :: r)
/-- Lines that end with a byte 10. -/
def nrm (l : List UInt8) : List UInt8 := (crlf l).map fun c => if c = 13 then 10 else c

theorem crlf_cons (c : UInt8) (r : List UInt8) (h : ¬ (c = 13 ∧ r.head? = some 10)) : crlf (c :: r) = c :: crlf r := by
  match r with
  | [] => rfl
  | d :: r => rw [crlf, if_neg (by simpa using h)]
theorem crlf_hit (r : List UInt8) : crlf (13 :: 10 :: r) = 10 :: crlf r := by rw [crlf, if_pos ⟨rfl, rfl⟩]

theorem occ_crlf (s : List UInt8) (j : Nat) : occAt s [13, 10] j = true ↔ ∃ r, s.drop j = 13 :: 10 :: r := by
  unfold occAt
  match h : s.drop j with
  | [] => simp [List.isPrefixOf]
  | [a] => simp [List.isPrefixOf]
  | a :: b :: r =>
    simp [List.isPrefixOf]
    constructor
    · rintro ⟨h1, h2⟩; exact ⟨h1.symm, h2.symm⟩
    · rintro ⟨h1, h2⟩; exact ⟨h1.symm, h2.symm⟩
theorem crlf_pass (a t : List UInt8) (h : ∀ j, j < a.length → occAt (a ++ t) [13, 10] j = false) : crlf (a ++ t) = a ++ crlf t := by
  induction a with
  | nil => rfl
  | cons c a ih =>
    have h0 := h 0 (by simp)
    rw [List.cons_append, crlf_cons]
    · rw [ih]
      · rfl
      · intro j hj
        have := h (j + 1) (by simpa using hj)
        simpa [occAt] using this
    · rintro ⟨h1, h2⟩
      have : occAt (c :: a ++ t) [13, 10] 0 = true := by
        rw [occ_crlf]
        match hat : a ++ t, h2 with
        | d :: r, h2 =>
          simp at h2
          subst h1 h2
          exact ⟨r, by simp [hat]⟩
      rw [h0] at this; cases this
theorem crlf_replace (n : Nat) (s : List UInt8) (hn : s.length ≤ n) : replaceAll s [13, 10] [10] = crlf s := by
  induction n generalizing s with
  | zero =>
    have : s = [] := List.length_eq_zero_iff.1 (by omega)
    subst this
    rw [replaceAll_miss _ _ _ (by decide) (by decide)]; rfl
  | succ n ih =>
    rcases index_spec s [13, 10] with ⟨h1, h2⟩ | ⟨i, h1, h2, h3, h4⟩
    · rw [replaceAll_miss _ _ _ (by decide) h1]
      have := crlf_pass s [] (fun j hj => by rw [List.append_nil]; exact h2 j (by omega))
      rw [List.append_nil] at this
      rw [this]; simp [crlf]
    · rw [replaceAll_hit s _ _ i (by decide) (by decide) h1]
      obtain ⟨r, hr⟩ := (occ_crlf s i).1 h3
      have hlen : i + 2 + r.length = s.length := by
        have := congrArg List.length hr
        simp at this
        omega
      have e1 : s.drop (i + ([13, 10] : List UInt8).length) = r := by
        have : s.drop (i + 2) = (s.drop i).drop 2 := by rw [List.drop_drop]
        show s.drop (i + 2) = r
        rw [this, hr]; rfl
      rw [e1, ih r (by omega)]
      have es : s = s.take i ++ 13 :: 10 :: r := by rw [← hr, List.take_append_drop]
      conv => rhs; rw [es]
      rw [crlf_pass, crlf_hit]
      · simp
      · intro j hj
        rw [← es]
        exact h4 j (by simp at hj; omega)
theorem cr_replace (n : Nat) (s : List UInt8) (hn : s.length ≤ n) : replaceAll s [13] [10] = s.map fun c => if c = 13 then 10 else c := by
  induction n generalizing s with
  | zero =>
    have : s = [] := List.length_eq_zero_iff.1 (by omega)
    subst this
    rw [replaceAll_miss _ _ _ (by decide) (by decide)]; rfl
  | succ n ih =>
    have hocc : ∀ (t : List UInt8) j, occAt t [13] j = true ↔ ∃ r, t.drop j = 13 :: r := by
      intro t j
      unfold occAt
      match t.drop j with
      | [] => simp [List.isPrefixOf]
      | a :: r =>
        simp [List.isPrefixOf]
        exact ⟨fun h => h.symm, fun h => h.symm⟩
    have hmap : ∀ a : List UInt8, (∀ j, j < a.length → ∀ t, occAt (a ++ t) [13] j = false) → (a.map fun c => if c = 13 then (10 : UInt8) else c) = a := by
      intro a h
      conv => rhs; rw [← List.map_id a]
      apply List.map_congr_left
      intro c hc
      rw [if_neg]
      · rfl
      · rintro rfl
        obtain ⟨j, hj, hj2⟩ := List.getElem_of_mem hc
        have := h j hj []
        have h2 : occAt (a ++ []) [13] j = true := by
          rw [hocc, List.append_nil, List.drop_eq_getElem_cons hj, hj2]; exact ⟨_, rfl⟩
        rw [this] at h2; cases h2
    have hpre : ∀ (a t : List UInt8) (j : Nat), j < a.length → occAt (a ++ t) [13] j = occAt a [13] j := by
      intro a t j hj
      have e1 : (a ++ t).drop j = a[j] :: (a.drop (j+1) ++ t) := by
        rw [List.drop_append_of_le_length (by omega), List.drop_eq_getElem_cons hj]; rfl
      have e2 : a.drop j = a[j] :: a.drop (j+1) := List.drop_eq_getElem_cons hj
      unfold occAt
      rw [e1, e2]
      simp [List.isPrefixOf]
    rcases index_spec s [13] with ⟨h1, h2⟩ | ⟨i, h1, h2, h3, h4⟩
    · rw [replaceAll_miss _ _ _ (by decide) h1]
      exact (hmap s (fun j hj t => by rw [hpre s t j hj]; exact h2 j (by omega))).symm
    · rw [replaceAll_hit s _ _ i (by decide) (by decide) h1]
      obtain ⟨r, hr⟩ := (hocc s i).1 h3
      have hlen : i + 1 + r.length = s.length := by
        have := congrArg List.length hr
        simp at this
        omega
      have e1 : s.drop (i + ([13] : List UInt8).length) = r := by
        have : s.drop (i + 1) = (s.drop i).drop 1 := by rw [List.drop_drop]
        show s.drop (i + 1) = r
        rw [this, hr]; rfl
      rw [e1, ih r (by omega)]
      have es : s = s.take i ++ 13 :: r := by rw [← hr, List.take_append_drop]
      conv => rhs; rw [es]
      rw [List.map_append, hmap (s.take i)]
      · simp
      · intro j hj t
        have hj' : j < i := by simp at hj; omega
        rw [hpre _ t j hj, ← hpre _ (13 :: r) j hj, ← es]
        exact h4 j hj'
theorem nrm_replace (s : List UInt8) : replaceAll (replaceAll s [13, 10] [10]) [13] [10] = nrm s := by
  rw [crlf_replace _ s (Nat.le_refl _), cr_replace _ _ (Nat.le_refl _)]; rfl
theorem crlf_le (n : Nat) (s : List UInt8) (hn : s.length ≤ n) : (crlf s).length ≤ s.length := by
  induction n generalizing s with
  | zero =>
    have : s = [] := List.length_eq_zero_iff.1 (by omega)
    subst this; simp [crlf]
  | succ n ih =>
    match s, hn with
    | [], _ => simp [crlf]
    | [c], _ => simp [crlf]
    | c :: d :: r, hn =>
      rw [crlf]
      split
      · have := ih r (by simp at hn; omega); simp; omega
      · have := ih (d :: r) (by simpa using hn); simpa using this
theorem nrm_le (s : List UInt8) : (nrm s).length ≤ s.length := by
  unfold nrm; rw [List.length_map]; exact crlf_le _ s (Nat.le_refl _)
end Go.Proofs.YtileclmmobkcaaaDoor
