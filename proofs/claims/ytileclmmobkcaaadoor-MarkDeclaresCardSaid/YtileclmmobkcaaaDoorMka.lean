/-
  Plain laws on comments, CDATA and bogus comments: what the program cuts is what the states of the standard come to. No program in sight, no condition.
-/
import Derived.Lib.Strings
import Derived.Lib.Index
import Derived.Lib.IndexLaws
import Derived.Lib.IndexMore
namespace Go.Proofs.YtileclmmobkcaaaDoor

/-- A token of this layer: its kind, its texts, its marks. -/
structure Tk where
  kind : Nat
  name : List UInt8 := []
  text : List UInt8 := []
  pub : List UInt8 := []
  sys : List UInt8 := []
  hp : Bool := false
  hs : Bool := false
  q : Bool := false

/-- A byte as a text; U+0000 as U+FFFD. -/
def whB (c : UInt8) : List UInt8 := if c = 0 then [239, 191, 189] else [c]
def wh (l : List UInt8) : List UInt8 := l.flatMap whB
theorem wh_nil : wh [] = [] := rfl
theorem wh_cons (c : UInt8) (l : List UInt8) : wh (c :: l) = whB c ++ wh l := rfl
theorem wh_append (a b : List UInt8) : wh (a ++ b) = wh a ++ wh b := by simp [wh]
theorem whB_le (c : UInt8) : (whB c).length ≤ 3 := by unfold whB; split <;> simp
theorem wh_le (l : List UInt8) : (wh l).length ≤ 3 * l.length := by
  induction l with
  | nil => simp [wh]
  | cons c l ih => have := whB_le c; rw [wh_cons, List.length_append, List.length_cons]; omega

/-- What is taken for a comment: its text, how many bytes, whether it is whole. -/
def tw (r : List UInt8) : List UInt8 := r.takeWhile (· != 62)
def bg (r : List UInt8) : List UInt8 × Nat × Bool := if 62 ∈ r then (wh (tw r), (tw r).length + 1, true) else (wh r, r.length, false)
/-- The same, byte by byte. -/
def bgR (t : List UInt8) (n : Nat) : List UInt8 → List UInt8 × Nat × Bool
  | [] => (t, n, false)
  | c :: r => if c = 62 then (t, n + 1, true) else bgR (t ++ whB c) (n + 1) r
theorem bgR_bg (t : List UInt8) (n : Nat) (r : List UInt8) : bgR t n r = (t ++ (bg r).1, n + (bg r).2.1, (bg r).2.2) := by
  induction r generalizing t n with
  | nil => simp [bgR, bg, wh]
  | cons c r ih =>
    unfold bgR
    by_cases h : c = 62
    · subst h; simp [bg, tw, wh]
    · rw [if_neg h, ih]
      unfold bg tw
      by_cases h2 : 62 ∈ r
      · rw [if_pos h2, if_pos (List.mem_cons_of_mem _ h2), List.takeWhile_cons_of_pos (by simpa using h), wh_cons]
        simp; omega
      · rw [if_neg h2, if_neg (by simp [h2, Ne.symm h]), wh_cons]
        simp; omega

/-! ### Comments -/
/-- One byte of the standard's states; none: it ends. -/
def cmS (st : Nat) (t : List UInt8) (c : UInt8) : Option (Nat × List UInt8) :=
  if st = 0 then (if c = 45 then some (1, t) else if c = 62 then none else some (2, t ++ whB c))
  else if st = 1 then (if c = 45 then some (4, t) else if c = 62 then none else some (2, t ++ [45] ++ whB c))
  else if st = 2 then (if c = 45 then some (3, t) else some (2, t ++ whB c))
  else if st = 3 then (if c = 45 then some (4, t) else some (2, t ++ [45] ++ whB c))
  else if st = 4 then (if c = 62 then none else if c = 33 then some (5, t) else if c = 45 then some (4, t ++ [45]) else some (2, t ++ [45, 45] ++ whB c))
  else (if c = 45 then some (3, t ++ [45, 45, 33]) else if c = 62 then none else some (2, t ++ [45, 45, 33] ++ whB c))
def cmR (st : Nat) (t : List UInt8) (n : Nat) : List UInt8 → List UInt8 × Nat × Bool
  | [] => (t, n, false)
  | c :: r => match cmS st t c with
    | none => (t, n + 1, true)
    | some x => cmR x.1 x.2 (n + 1) r
theorem cmR_some (st : Nat) (t : List UInt8) (n : Nat) (c : UInt8) (r : List UInt8) (st' : Nat) (t' : List UInt8) (h : cmS st t c = some (st', t')) : cmR st t n (c :: r) = cmR st' t' (n + 1) r := by
  rw [cmR, h]
theorem cmR_none (st : Nat) (t : List UInt8) (n : Nat) (c : UInt8) (r : List UInt8) (h : cmS st t c = none) : cmR st t n (c :: r) = (t, n + 1, true) := by
  rw [cmR, h]

/-- Where the first end of a comment stands: how long its text is, how many bytes it takes, whether there is one. -/
def fe : List UInt8 → Nat × Nat × Bool
  | [] => (0, 0, false)
  | c :: r =>
    if [45, 45, 62].isPrefixOf (c :: r) then (0, 3, true)
    else if [45, 45, 33, 62].isPrefixOf (c :: r) then (0, 4, true)
    else if c :: r = [45, 45, 33] ∨ c :: r = [45, 45] ∨ c :: r = [45] then (0, (c :: r).length, false)
    else ((fe r).1 + 1, (fe r).2.1 + 1, (fe r).2.2)

def feT (t : List UInt8) (n : Nat) (r : List UInt8) : List UInt8 × Nat × Bool := (t ++ wh (r.take (fe r).1), n + (fe r).2.1, (fe r).2.2)
theorem feT_nil (t : List UInt8) (n : Nat) : feT t n [] = (t, n, false) := by simp [feT, fe, wh]
theorem feT_step (t : List UInt8) (n : Nat) (c : UInt8) (r : List UInt8) (h1 : ¬ [45, 45, 62].isPrefixOf (c :: r) = true) (h2 : ¬ [45, 45, 33, 62].isPrefixOf (c :: r) = true)
    (h3 : ¬ (c :: r = [45, 45, 33] ∨ c :: r = [45, 45] ∨ c :: r = [45])) : feT t n (c :: r) = feT (t ++ whB c) (n + 1) r := by
  unfold feT
  rw [fe, if_neg h1, if_neg h2, if_neg h3]
  dsimp only
  rw [List.take_succ_cons, wh_cons]
  simp; omega
theorem feT_other (t : List UInt8) (n : Nat) (c : UInt8) (r : List UInt8) (h : c ≠ 45) : feT t n (c :: r) = feT (t ++ whB c) (n + 1) r := by
  apply feT_step
  · simp [List.isPrefixOf, Ne.symm h]
  · simp [List.isPrefixOf, Ne.symm h]
  · simp [h]
theorem feT_one (t : List UInt8) (n : Nat) (c : UInt8) (r : List UInt8) (h : c ≠ 45) : feT t n (45 :: c :: r) = feT (t ++ [45] ++ whB c) (n + 2) r := by
  rw [feT_step, feT_other _ _ _ _ h]
  · rfl
  · simp [List.isPrefixOf, Ne.symm h]
  · simp [List.isPrefixOf, Ne.symm h]
  · simp [h]
theorem feT_two (t : List UInt8) (n : Nat) (c : UInt8) (r : List UInt8) (h1 : c ≠ 45) (h2 : c ≠ 62) (h3 : c ≠ 33) : feT t n (45 :: 45 :: c :: r) = feT (t ++ [45, 45] ++ whB c) (n + 3) r := by
  rw [feT_step, feT_one _ _ _ _ h1]
  · congr 1
    simp [whB]
  · simp [List.isPrefixOf, Ne.symm h2]
  · simp [List.isPrefixOf, Ne.symm h3]
  · simp [h3]
theorem feT_dash (t : List UInt8) (n : Nat) (r : List UInt8) : feT t n (45 :: 45 :: 45 :: r) = feT (t ++ [45]) (n + 1) (45 :: 45 :: r) := by
  rw [feT_step]
  · rfl
  · simp [List.isPrefixOf]
  · simp [List.isPrefixOf]
  · simp
theorem feT_three (t : List UInt8) (n : Nat) (c : UInt8) (r : List UInt8) (h1 : c ≠ 45) (h2 : c ≠ 62) : feT t n (45 :: 45 :: 33 :: c :: r) = feT (t ++ [45, 45, 33] ++ whB c) (n + 4) r := by
  rw [feT_step, feT_one _ _ _ _ (by decide), feT_other _ _ _ _ h1]
  · congr 1
    simp [whB]
  · simp [List.isPrefixOf]
  · simp [List.isPrefixOf, Ne.symm h2]
  · simp
theorem feT_bang (t : List UInt8) (n : Nat) (r : List UInt8) : feT t n (45 :: 45 :: 33 :: 45 :: r) = feT (t ++ [45, 45, 33]) (n + 3) (45 :: r) := by
  rw [feT_step, feT_one _ _ _ _ (by decide)]
  · congr 1
    simp [whB]
  · simp [List.isPrefixOf]
  · simp [List.isPrefixOf]
  · simp

/-- In the midst of a comment the states come to its first end. -/
theorem cmR_fe (k : Nat) : ∀ (t : List UInt8) (n : Nat) (r : List UInt8), r.length ≤ k →
    cmR 2 t n r = feT t n r ∧ cmR 3 t (n + 1) r = feT t n (45 :: r) ∧ cmR 4 t (n + 2) r = feT t n (45 :: 45 :: r) ∧ cmR 5 t (n + 3) r = feT t n (45 :: 45 :: 33 :: r) := by
  induction k with
  | zero =>
    intro t n r h
    obtain rfl : r = [] := List.length_eq_zero_iff.1 (by omega)
    simp [cmR, feT, fe, wh, List.isPrefixOf]
  | succ k ih =>
    intro t n r h
    match r, h with
    | [], _ => simp [cmR, feT, fe, wh, List.isPrefixOf]
    | c :: r, h =>
      have hr : r.length ≤ k := by simpa using h
      refine ⟨?_, ?_, ?_, ?_⟩
      · by_cases h1 : c = 45
        · subst h1
          rw [cmR_some 2 t n 45 r 3 t (by simp [cmS])]
          exact (ih t n r hr).2.1
        · rw [cmR_some 2 t n c r 2 (t ++ whB c) (by simp [cmS, h1]), feT_other _ _ _ _ h1]
          exact (ih _ _ r hr).1
      · by_cases h1 : c = 45
        · subst h1
          rw [cmR_some 3 t _ 45 r 4 t (by simp [cmS])]
          exact (ih t n r hr).2.2.1
        · rw [cmR_some 3 t _ c r 2 (t ++ [45] ++ whB c) (by simp [cmS, h1]), feT_one _ _ _ _ h1]
          exact (ih _ _ r hr).1
      · by_cases h1 : c = 62
        · subst h1
          rw [cmR_none 4 t _ 62 r (by simp [cmS])]
          simp [feT, fe, List.isPrefixOf, wh]
        · by_cases h2 : c = 33
          · subst h2
            rw [cmR_some 4 t _ 33 r 5 t (by simp [cmS])]
            exact (ih t n r hr).2.2.2
          · by_cases h3 : c = 45
            · subst h3
              rw [cmR_some 4 t _ 45 r 4 (t ++ [45]) (by simp [cmS]), feT_dash]
              exact (ih _ (n + 1) r hr).2.2.1
            · rw [cmR_some 4 t _ c r 2 (t ++ [45, 45] ++ whB c) (by simp [cmS, h1, h2, h3]), feT_two _ _ _ _ h3 h1 h2]
              exact (ih _ _ r hr).1
      · by_cases h1 : c = 45
        · subst h1
          rw [cmR_some 5 t _ 45 r 3 (t ++ [45, 45, 33]) (by simp [cmS]), feT_bang]
          exact (ih _ (n + 3) r hr).2.1
        · by_cases h2 : c = 62
          · subst h2
            rw [cmR_none 5 t _ 62 r (by simp [cmS])]
            simp [feT, fe, List.isPrefixOf, wh]
          · rw [cmR_some 5 t _ c r 2 (t ++ [45, 45, 33] ++ whB c) (by simp [cmS, h1, h2]), feT_three _ _ _ _ h1 h2]
            exact (ih _ _ r hr).1

/-- Where the program finds the end: how long the text is, how long the end. -/
def cmE (r : List UInt8) : Nat × Nat :=
  let a : Nat × Nat := if 0 ≤ Lib.index r [45, 45, 62] then ((Lib.index r [45, 45, 62]).toNat, 3) else (r.length, 0)
  if 0 ≤ Lib.index r [45, 45, 33, 62] ∧ Lib.index r [45, 45, 33, 62] < a.1 then ((Lib.index r [45, 45, 33, 62]).toNat, 4) else a
/-- What has begun of an end, at the end. -/
def cmB (r : List UInt8) : Nat := if Lib.hasSuffix r [45, 45, 33] then 3 else if Lib.hasSuffix r [45, 45] then 2 else if Lib.hasSuffix r [45] then 1 else 0
def cm (r : List UInt8) : List UInt8 × Nat × Bool :=
  if Lib.hasPrefix r [62] then ([], 1, true) else if Lib.hasPrefix r [45, 62] then ([], 2, true)
  else if 0 < (cmE r).2 then (wh (r.take (cmE r).1), (cmE r).1 + (cmE r).2, true)
  else (wh (r.take (r.length - cmB r)), r.length, false)

theorem index_cons (c : UInt8) (r w : List UInt8) (h : ¬ w.isPrefixOf (c :: r) = true) : Lib.index (c :: r) w = if Lib.index r w = -1 then -1 else Lib.index r w + 1 := by
  rw [Lib.index, if_neg h]
  by_cases h2 : Lib.index r w = -1
  · rw [if_pos h2, if_pos (by rw [h2]; rfl)]
  · rw [if_neg h2, if_neg (by simpa using h2)]
theorem suffix_cons (c : UInt8) (r w : List UInt8) (h : c :: r ≠ w) : Lib.hasSuffix (c :: r) w = Lib.hasSuffix r w := by
  unfold Lib.hasSuffix
  rw [Bool.eq_iff_iff, List.isSuffixOf_iff_suffix, List.isSuffixOf_iff_suffix, List.suffix_cons_iff]
  constructor
  · rintro (h2 | h2)
    · exact absurd h2.symm h
    · exact h2
  · exact .inr

theorem cmB_le (r : List UInt8) : cmB r ≤ r.length := by
  unfold cmB
  split
  · rename_i h; have := (List.isSuffixOf_iff_suffix.1 h).length_le; simpa using this
  · split
    · rename_i h; have := (List.isSuffixOf_iff_suffix.1 h).length_le; simpa using this
    · split
      · rename_i h; have := (List.isSuffixOf_iff_suffix.1 h).length_le; simpa using this
      · omega

theorem cmE_fe (r : List UInt8) : fe r = if 0 < (cmE r).2 then ((cmE r).1, (cmE r).1 + (cmE r).2, true) else (r.length - cmB r, r.length, false) := by
  induction r with
  | nil => rfl
  | cons c r ih =>
    rw [fe]
    by_cases h1 : [45, 45, 62].isPrefixOf (c :: r) = true
    · rw [if_pos h1]
      have e1 : Lib.index (c :: r) [45, 45, 62] = 0 := by rw [Lib.index, if_pos h1]
      have h2 : ¬ [45, 45, 33, 62].isPrefixOf (c :: r) = true := by
        intro h2
        match c, r, h1, h2 with
        | c, [], h1, h2 => simp [List.isPrefixOf] at h1
        | c, [d], h1, h2 => simp [List.isPrefixOf] at h1
        | c, d :: e :: r, h1, h2 =>
          simp [List.isPrefixOf] at h1 h2
          obtain ⟨_, _, h3⟩ := h1
          rw [← h3] at h2
          exact absurd h2.2.2.1 (by decide)
      have hc : cmE (c :: r) = (0, 3) := by
        unfold cmE
        rw [e1]
        dsimp only
        rw [if_pos (show (0 : Int) ≤ 0 by omega), if_neg]
        · rfl
        · rintro ⟨a, b⟩
          simp at b
          omega
      rw [hc]; rfl
    · rw [if_neg h1]
      by_cases h2 : [45, 45, 33, 62].isPrefixOf (c :: r) = true
      · rw [if_pos h2]
        have e2 : Lib.index (c :: r) [45, 45, 33, 62] = 0 := by rw [Lib.index, if_pos h2]
        have hi := index_cons c r [45, 45, 62] h1
        have hge := Lib.index_ge r [45, 45, 62]
        have hc : cmE (c :: r) = (0, 4) := by
          unfold cmE
          rw [e2]
          dsimp only
          by_cases h3 : 0 ≤ Lib.index (c :: r) [45, 45, 62]
          · rw [if_pos h3]
            have : 0 < Lib.index (c :: r) [45, 45, 62] := by
              rw [hi] at h3 ⊢
              split at h3
              · rename_i h4; omega
              · rename_i h4; rw [if_neg h4]; omega
            rw [if_pos]
            · rfl
            · refine ⟨by omega, ?_⟩
              dsimp only; omega
          · rw [if_neg h3, if_pos]
            · rfl
            · exact ⟨by omega, by simp⟩
        rw [hc]; rfl
      · rw [if_neg h2]
        have hi := index_cons c r [45, 45, 62] h1
        have hj := index_cons c r [45, 45, 33, 62] h2
        by_cases h3 : c :: r = [45, 45, 33] ∨ c :: r = [45, 45] ∨ c :: r = [45]
        · rw [if_pos h3]
          rcases h3 with h3 | h3 | h3 <;> rw [h3] <;> rfl
        · rw [if_neg h3]
          have hB : cmB (c :: r) = cmB r := by
            unfold cmB
            rw [suffix_cons c r _ (fun e => h3 (.inl e)), suffix_cons c r _ (fun e => h3 (.inr (.inl e))), suffix_cons c r _ (fun e => h3 (.inr (.inr e)))]
          have hE : cmE (c :: r) = ((cmE r).1 + 1, (cmE r).2) := by
            have hge := Lib.index_ge r [45, 45, 62]
            have hge2 := Lib.index_ge r [45, 45, 33, 62]
            unfold cmE
            rw [hi, hj]
            dsimp only
            generalize Lib.index r [45, 45, 62] = i at *
            generalize Lib.index r [45, 45, 33, 62] = j at *
            by_cases hi1 : i = -1
            · subst hi1
              by_cases hj1 : j = -1
              · subst hj1; simp
              · rw [if_neg hj1]
                by_cases hl : j < r.length
                · simp [show 0 ≤ j by omega, show 0 ≤ j + 1 by omega, hl, show j + 1 < (r.length : Int) + 1 by omega, show (j + 1).toNat = j.toNat + 1 by omega]
                · simp [hl, show ¬ (j + 1 < (r.length : Int) + 1) by omega]
            · rw [if_neg hi1]
              by_cases hj1 : j = -1
              · subst hj1; simp [show 0 ≤ i by omega, show 0 ≤ i + 1 by omega, show (i + 1).toNat = i.toNat + 1 by omega]
              · rw [if_neg hj1]
                simp only [show 0 ≤ i by omega, show 0 ≤ i + 1 by omega, show 0 ≤ j by omega, show 0 ≤ j + 1 by omega, if_true, true_and, show (i + 1).toNat = i.toNat + 1 by omega, show (j + 1).toNat = j.toNat + 1 by omega]
                by_cases hl : j < i
                · rw [if_pos (by omega), if_pos (by omega)]
                · rw [if_neg (by omega), if_neg (by omega)]
          rw [ih, hB, hE]
          have hle := cmB_le r
          by_cases h4 : 0 < (cmE r).2
          · rw [if_pos h4, if_pos h4]
            dsimp only
            congr 2
            omega
          · rw [if_neg h4, if_neg h4]
            dsimp only
            rw [List.length_cons]
            congr 1
            omega

/-- THE LAW OF COMMENTS: the program's cut is what the states come to. -/
theorem cm_cmR (r : List UInt8) : cmR 0 [] 0 r = cm r := by
  have key : ∀ r, ¬ Lib.hasPrefix r [62] = true → ¬ Lib.hasPrefix r [45, 62] = true → cm r = feT [] 0 r := by
    intro r h1 h2
    unfold cm feT
    rw [if_neg h1, if_neg h2, cmE_fe r]
    split
    · simp
    · simp
  match r with
  | [] => rfl
  | c :: r =>
    by_cases h1 : c = 62
    · subst h1
      rw [cmR_none 0 [] 0 62 r (by simp [cmS])]
      simp [cm, Lib.hasPrefix, List.isPrefixOf]
    · have p1 : ¬ Lib.hasPrefix (c :: r) [62] = true := by simp [Lib.hasPrefix, List.isPrefixOf, Ne.symm h1]
      by_cases h2 : c = 45
      · subst h2
        rw [cmR_some 0 [] 0 45 r 1 [] (by simp [cmS])]
        match r with
        | [] => rfl
        | d :: r =>
          by_cases h3 : d = 62
          · subst h3
            rw [cmR_none 1 [] _ 62 r (by simp [cmS])]
            simp [cm, Lib.hasPrefix, List.isPrefixOf]
          · rw [key _ p1 (by simp [Lib.hasPrefix, List.isPrefixOf, Ne.symm h3])]
            by_cases h4 : d = 45
            · subst h4
              rw [cmR_some 1 [] _ 45 r 4 [] (by simp [cmS])]
              exact (cmR_fe _ [] 0 r (Nat.le_refl _)).2.2.1
            · rw [cmR_some 1 [] _ d r 2 ([] ++ [45] ++ whB d) (by simp [cmS, h3, h4]), feT_one _ _ _ _ h4]
              exact (cmR_fe _ _ _ r (Nat.le_refl _)).1
      · rw [key _ p1 (by simp [Lib.hasPrefix, List.isPrefixOf, Ne.symm h2])]
        rw [cmR_some 0 [] 0 c r 2 ([] ++ whB c) (by simp [cmS, h1, h2]), feT_other _ _ _ _ h2]
        exact (cmR_fe _ _ _ r (Nat.le_refl _)).1
end Go.Proofs.YtileclmmobkcaaaDoor
