/-
  Plain laws on declarations: what is whole does not hang on what stands behind. No program in sight, no condition.
-/
import Derived.Test.YtileclmmobkcaaaDoorMkb
namespace Go.Proofs.YtileclmmobkcaaaDoor

def wDoc : List UInt8 := [100, 111, 99, 116, 121, 112, 101]
def wCd : List UInt8 := [91, 67, 68, 65, 84, 65, 91]
/-- CDATA, from behind its beginning. -/
def cdt (r : List UInt8) : List UInt8 × Nat × Bool := if 0 ≤ Lib.index r [93, 93, 62] then (r.take (Lib.index r [93, 93, 62]).toNat, (Lib.index r [93, 93, 62]).toNat + 3, true) else (r, r.length, false)
/-- What stands behind a <!: the token, how many bytes, whether it is whole. -/
def dcl (cd : Bool) (r : List UInt8) : Tk × Nat × Bool :=
  if Lib.hasPrefix r [45, 45] then ({ kind := 4, text := (cm (r.drop 2)).1 }, 2 + (cm (r.drop 2)).2.1, (cm (r.drop 2)).2.2)
  else if wd wDoc r then ((dt (r.drop 7)).1, r.length - (dt (r.drop 7)).2.1.length, (dt (r.drop 7)).2.2)
  else if cd && Lib.hasPrefix r wCd then ({ kind := 1, text := (cdt (r.drop 7)).1 }, 7 + (cdt (r.drop 7)).2.1, (cdt (r.drop 7)).2.2)
  else ({ kind := 4, text := (bg r).1 }, (bg r).2.1, (bg r).2.2)

/-! ### What is whole -/
theorem bgR_whole (t : List UInt8) (n : Nat) (r : List UInt8) (t' : List UInt8) (m : Nat) (h : bgR t n r = (t', m, true)) :
    ∃ p r', r = p ++ 62 :: r' ∧ m = n + p.length + 1 ∧ ∀ x, bgR t n (p ++ 62 :: x) = (t', m, true) := by
  induction r generalizing t n with
  | nil => simp [bgR] at h
  | cons c r ih =>
    rw [bgR] at h
    by_cases hc : c = 62
    · subst hc
      rw [if_pos rfl] at h
      cases h
      exact ⟨[], r, rfl, rfl, fun x => by simp [bgR]⟩
    · rw [if_neg hc] at h
      obtain ⟨p, r', rfl, h2, h3⟩ := ih _ _ h
      refine ⟨c :: p, r', rfl, by simp; omega, fun x => ?_⟩
      rw [List.cons_append, bgR, if_neg hc]
      exact h3 x
theorem bgR_open (t : List UInt8) (n : Nat) (r : List UInt8) (t' : List UInt8) (m : Nat) (h : bgR t n r = (t', m, false)) : m = n + r.length := by
  induction r generalizing t n with
  | nil => cases h; rfl
  | cons c r ih =>
    rw [bgR] at h
    by_cases hc : c = 62
    · rw [if_pos hc] at h; cases h
    · rw [if_neg hc] at h
      have := ih _ _ h
      simp; omega
theorem cmS_none (st : Nat) (t : List UInt8) (c : UInt8) (h : cmS st t c = none) : c = 62 := by
  unfold cmS at h
  repeat' split at h
  all_goals first | assumption | cases h
theorem cmR_whole (st : Nat) (t : List UInt8) (n : Nat) (r : List UInt8) (t' : List UInt8) (m : Nat) (h : cmR st t n r = (t', m, true)) :
    ∃ p r', r = p ++ 62 :: r' ∧ m = n + p.length + 1 ∧ ∀ x, cmR st t n (p ++ 62 :: x) = (t', m, true) := by
  induction r generalizing st t n with
  | nil => simp [cmR] at h
  | cons c r ih =>
    cases hs : cmS st t c with
    | none =>
      obtain rfl := cmS_none _ _ _ hs
      rw [cmR_none _ _ _ _ _ hs] at h
      cases h
      exact ⟨[], r, rfl, rfl, fun x => cmR_none _ _ _ _ _ hs⟩
    | some y =>
      obtain ⟨st', t2⟩ := y
      rw [cmR_some _ _ _ _ _ _ _ hs] at h
      obtain ⟨p, r', rfl, h2, h3⟩ := ih _ _ _ h
      refine ⟨c :: p, r', rfl, by simp; omega, fun x => ?_⟩
      rw [List.cons_append, cmR_some _ _ _ _ _ _ _ hs]
      exact h3 x
theorem cmR_open (st : Nat) (t : List UInt8) (n : Nat) (r : List UInt8) (t' : List UInt8) (m : Nat) (h : cmR st t n r = (t', m, false)) : m = n + r.length := by
  induction r generalizing st t n with
  | nil => cases h; rfl
  | cons c r ih =>
    cases hs : cmS st t c with
    | none => rw [cmR_none _ _ _ _ _ hs] at h; cases h
    | some y =>
      rw [cmR_some _ _ _ _ _ y.1 y.2 hs] at h
      have := ih _ _ _ h
      simp; omega
theorem lwB_62 : lwB 62 = 62 := by decide
theorem take_stab (p x y : List UInt8) (c : UInt8) (k : Nat) (h : k ≤ p.length + 1) : (p ++ c :: x).take k = (p ++ c :: y).take k := by
  have e : ∀ x, p ++ c :: x = (p ++ [c]) ++ x := fun x => by simp
  have hl : k ≤ (p ++ [c]).length := by simpa using h
  rw [e x, e y, List.take_append_of_le_length hl, List.take_append_of_le_length hl]
theorem wd_false (w p x : List UInt8) (hw : 62 ∉ w) (h : p.length < w.length) : wd w (p ++ 62 :: x) = false := by
  cases hd : wd w (p ++ 62 :: x) with
  | false => rfl
  | true =>
    unfold wd at hd
    simp only [Bool.and_eq_true, beq_iff_eq] at hd
    exfalso
    apply hw
    rw [← hd.2, List.take_append]
    unfold lw
    rw [List.map_append]
    obtain ⟨k, hk⟩ : ∃ k, w.length - p.length = k + 1 := ⟨w.length - p.length - 1, by omega⟩
    rw [hk, List.take_succ_cons, List.map_cons, lwB_62]
    simp
theorem wd_stab (w p x y : List UInt8) (hw : 62 ∉ w) : wd w (p ++ 62 :: x) = wd w (p ++ 62 :: y) := by
  by_cases h : p.length < w.length
  · rw [wd_false w p x hw h, wd_false w p y hw h]
  · unfold wd
    rw [take_stab p x y 62 w.length (by omega)]
    congr 1
    simp; omega
theorem pre_stab (w p x y : List UInt8) (hw : 62 ∉ w) : Lib.hasPrefix (p ++ 62 :: x) w = Lib.hasPrefix (p ++ 62 :: y) w := by
  have key : ∀ x y, Lib.hasPrefix (p ++ 62 :: x) w = true → Lib.hasPrefix (p ++ 62 :: y) w = true := by
    intro x y h
    unfold Lib.hasPrefix at h ⊢
    rw [List.isPrefixOf_iff_prefix] at h ⊢
    rcases Nat.lt_or_ge p.length w.length with hl | hl
    · exfalso
      apply hw
      obtain ⟨z, hz⟩ := h
      have e : (p ++ 62 :: x)[p.length]? = some 62 := by simp
      rw [← hz, List.getElem?_append_left hl] at e
      exact List.mem_of_getElem? e
    · have := List.prefix_of_prefix_length_le h (List.prefix_append p (62 :: x)) hl
      exact this.trans (List.prefix_append _ _)
  rw [Bool.eq_iff_iff]
  exact ⟨key x y, key y x⟩
theorem wPub_62 : (62 : UInt8) ∉ wPub := by decide
theorem wSys_62 : (62 : UInt8) ∉ wSys := by decide
theorem wDoc_62 : (62 : UInt8) ∉ wDoc := by decide
theorem wCd_62 : (62 : UInt8) ∉ wCd := by decide
theorem dS_stab (st : Nat) (q : UInt8) (t : Tk) (c : UInt8) (p x y : List UInt8) : dS st q t c (p ++ 62 :: x) = dS st q t c (p ++ 62 :: y) := by
  unfold dS
  rw [← List.cons_append, ← List.cons_append, wd_stab wPub (c :: p) x y wPub_62, wd_stab wSys (c :: p) x y wSys_62]
theorem dS_stop (st : Nat) (q : UInt8) (t : Tk) (c : UInt8) (r : List UInt8) (t' : Tk) (h : dS st q t c r = .stop t') : c = 62 ∧ ∀ x, dS st q t c x = .stop t' := by
  have h62 : c = 62 := by
    by_cases hc : c = 62
    · exact hc
    exfalso
    unfold dS at h
    simp only [if_neg hc] at h
    by_cases h1 : st = 1
    · rw [if_pos h1] at h; split at h <;> cases h
    rw [if_neg h1] at h
    by_cases h1 : st = 2
    · rw [if_pos h1] at h; split at h <;> cases h
    rw [if_neg h1] at h
    by_cases h1 : st = 3
    · rw [if_pos h1] at h
      repeat' split at h
      all_goals cases h
    rw [if_neg h1] at h
    by_cases h1 : st = 4
    · rw [if_pos h1] at h
      repeat' split at h
      all_goals cases h
    rw [if_neg h1] at h
    by_cases h1 : st = 7
    · rw [if_pos h1] at h
      repeat' split at h
      all_goals cases h
    rw [if_neg h1] at h
    by_cases h1 : st = 5
    · rw [if_pos h1] at h
      repeat' split at h
      all_goals cases h
    rw [if_neg h1] at h
    by_cases h1 : st = 11
    · rw [if_pos h1] at h
      repeat' split at h
      all_goals cases h
    rw [if_neg h1] at h
    by_cases h1 : st = 8
    · rw [if_pos h1] at h
      repeat' split at h
      all_goals cases h
    rw [if_neg h1] at h
    by_cases h1 : st = 9
    · rw [if_pos h1] at h
      repeat' split at h
      all_goals cases h
    rw [if_neg h1] at h
    cases h
  subst h62
  refine ⟨rfl, fun x => ?_⟩
  rw [← h]
  unfold dS
  simp [bsp62]
theorem dR_whole (k st : Nat) (q : UInt8) (t : Tk) (r : List UInt8) (t' : Tk) (r' : List UInt8) (h : dR k st q t r = (t', r', true)) :
    ∃ p, r = p ++ 62 :: r' ∧ ∀ x, dR k st q t (p ++ 62 :: x) = (t', x, true) := by
  induction r generalizing k st q t with
  | nil => simp [dR] at h
  | cons c r ih =>
    rw [dR] at h
    by_cases hk : 0 < k
    · rw [if_pos hk] at h
      obtain ⟨p, rfl, h2⟩ := ih _ _ _ _ h
      refine ⟨c :: p, rfl, fun x => ?_⟩
      rw [List.cons_append, dR, if_pos hk]
      exact h2 x
    · rw [if_neg hk] at h
      cases hs : dS st q t c r with
      | stop t2 =>
        rw [hs] at h
        obtain ⟨rfl, h3⟩ := dS_stop _ _ _ _ _ _ hs
        cases h
        refine ⟨[], rfl, fun x => ?_⟩
        rw [List.nil_append, dR, if_neg hk, h3 x]
      | go k2 st2 q2 t2 =>
        rw [hs] at h
        obtain ⟨p, rfl, h2⟩ := ih _ _ _ _ h
        refine ⟨c :: p, rfl, fun x => ?_⟩
        rw [List.cons_append, dR, if_neg hk, dS_stab st q t c p x r', hs]
        exact h2 x
theorem dR_open (k st : Nat) (q : UInt8) (t : Tk) (r : List UInt8) (t' : Tk) (r' : List UInt8) (h : dR k st q t r = (t', r', false)) : r' = [] := by
  induction r generalizing k st q t with
  | nil => cases h; rfl
  | cons c r ih =>
    rw [dR] at h
    by_cases hk : 0 < k
    · rw [if_pos hk] at h; exact ih _ _ _ _ h
    · rw [if_neg hk] at h
      cases hs : dS st q t c r with
      | stop t2 => rw [hs] at h; cases h
      | go k2 st2 q2 t2 => rw [hs] at h; exact ih _ _ _ _ h

/-- The first ]]>, by recursion. -/
def ci : List UInt8 → Option Nat
  | [] => none
  | c :: r => if [93, 93, 62].isPrefixOf (c :: r) then some 0 else (ci r).map (· + 1)
theorem ci_index (r : List UInt8) : Lib.index r [93, 93, 62] = (match ci r with | none => -1 | some i => (i : Int)) := by
  induction r with
  | nil => rfl
  | cons c r ih =>
    rw [ci]
    by_cases h : [93, 93, 62].isPrefixOf (c :: r) = true
    · rw [if_pos h, Lib.index, if_pos h]; rfl
    · rw [if_neg h, index_cons c r _ h, ih]
      cases ci r with
      | none => rfl
      | some i =>
        simp only [Option.map_some]
        rw [if_neg (by omega)]
        rfl
theorem ci_whole (r : List UInt8) (i : Nat) (h : ci r = some i) : ∃ p r', r = p ++ 93 :: 93 :: 62 :: r' ∧ p.length = i ∧ ∀ x, ci (p ++ 93 :: 93 :: 62 :: x) = some i := by
  induction r generalizing i with
  | nil => cases h
  | cons c r ih =>
    rw [ci] at h
    by_cases hp : [93, 93, 62].isPrefixOf (c :: r) = true
    · rw [if_pos hp] at h
      cases h
      obtain ⟨r', hr⟩ := List.isPrefixOf_iff_prefix.1 hp
      exact ⟨[], r', hr.symm, rfl, fun x => by simp [ci, List.isPrefixOf]⟩
    · rw [if_neg hp] at h
      cases hc : ci r with
      | none => rw [hc] at h; cases h
      | some j =>
        rw [hc] at h
        cases h
        obtain ⟨p, r', rfl, h2, h3⟩ := ih j hc
        refine ⟨c :: p, r', rfl, by simp [h2], fun x => ?_⟩
        have hp2 : ¬ [93, 93, 62].isPrefixOf (c :: (p ++ 93 :: 93 :: 62 :: x)) = true := by
          intro h4
          apply hp
          match p, h4 with
          | [], h4 => simp [List.isPrefixOf] at h4
          | [d], h4 => simp [List.isPrefixOf] at h4
          | d :: e :: p, h4 => simpa [List.isPrefixOf] using h4
        rw [List.cons_append, ci, if_neg hp2, h3 x]; rfl
theorem cdt_whole (r t : List UInt8) (m : Nat) (h : cdt r = (t, m, true)) : ∃ p r', r = p ++ 62 :: r' ∧ m = p.length + 1 ∧ ∀ x, cdt (p ++ 62 :: x) = (t, m, true) := by
  unfold cdt at h
  rw [ci_index] at h
  cases hc : ci r with
  | none => rw [hc] at h; simp at h
  | some i =>
    rw [hc] at h
    obtain ⟨p, r', rfl, hl, hx⟩ := ci_whole r i hc
    dsimp only at h
    rw [if_pos (by omega), Int.toNat_natCast] at h
    cases h
    have e : ∀ x, p ++ 93 :: 93 :: 62 :: x = (p ++ [93, 93]) ++ 62 :: x := fun x => by simp
    refine ⟨p ++ [93, 93], r', e r', by simp; omega, fun x => ?_⟩
    rw [← e x]
    unfold cdt
    rw [ci_index, hx x]
    dsimp only
    rw [if_pos (by omega), Int.toNat_natCast, List.take_append_of_le_length (by omega), List.take_append_of_le_length (by omega)]
theorem cdt_open (r t : List UInt8) (m : Nat) (h : cdt r = (t, m, false)) : m = r.length := by
  unfold cdt at h
  split at h
  · cases h
  · cases h; rfl

/-- WHAT IS WHOLE: it ends with a >; what stands behind changes nothing. -/
theorem dcl_whole (cd : Bool) (r : List UInt8) (t : Tk) (n : Nat) (h : dcl cd r = (t, n, true)) : ∃ p r', r = p ++ 62 :: r' ∧ n = p.length + 1 ∧ ∀ x, dcl cd (p ++ 62 :: x) = (t, n, true) := by
  unfold dcl at h
  by_cases h1 : Lib.hasPrefix r [45, 45] = true
  · rw [if_pos h1] at h
    obtain ⟨r1, rfl⟩ := List.isPrefixOf_iff_prefix.1 h1
    simp only [List.cons_append, List.nil_append, List.drop_succ_cons, List.drop_zero] at h
    injection h with ht h
    injection h with hn hk
    obtain ⟨p, r', rfl, h4, h5⟩ := cmR_whole 0 [] 0 r1 (cm r1).1 (cm r1).2.1 (by rw [cm_cmR, ← hk])
    refine ⟨45 :: 45 :: p, r', rfl, by simp; omega, fun x => ?_⟩
    have e := h5 x
    rw [cm_cmR] at e
    unfold dcl
    rw [if_pos (by simp [Lib.hasPrefix, List.isPrefixOf])]
    simp only [List.cons_append, List.drop_succ_cons, List.drop_zero]
    rw [e, ← ht, ← hn]
  · rw [if_neg h1] at h
    by_cases h2 : wd wDoc r = true
    · rw [if_pos h2] at h
      injection h with ht h
      injection h with hn hk
      have hlen : 7 ≤ r.length := by
        unfold wd at h2
        simp only [Bool.and_eq_true, decide_eq_true_eq] at h2
        exact h2.1
      have hsp : r = r.take 7 ++ r.drop 7 := (List.take_append_drop 7 r).symm
      have hl7 : (r.take 7).length = 7 := by simp; omega
      generalize r.take 7 = a at *
      generalize r.drop 7 = b at *
      obtain ⟨p, hp, h5⟩ := dR_whole 0 1 0 { kind := 5 } b (dt b).1 (dt b).2.1 (by rw [dt_dR, ← hk])
      generalize hr' : (dt b).2.1 = r' at *
      subst hp
      subst hsp
      rw [← List.append_assoc] at h1 h2 hn ⊢
      refine ⟨a ++ p, r', rfl, by rw [← hn]; simp; omega, fun x => ?_⟩
      have e := h5 x
      rw [dt_dR] at e
      unfold dcl
      rw [if_neg (by rw [pre_stab _ (a ++ p) x r' (by decide)]; exact h1), if_pos (by rw [wd_stab _ (a ++ p) x r' wDoc_62]; exact h2)]
      have ed : (a ++ p ++ 62 :: x).drop 7 = p ++ 62 :: x := by rw [List.append_assoc, ← hl7, List.drop_left]
      rw [ed, e, ← ht, ← hn]
      dsimp only
      congr 2
      simp; omega
    · rw [if_neg h2] at h
      by_cases h3 : (cd && Lib.hasPrefix r wCd) = true
      · rw [if_pos h3] at h
        injection h with ht h
        injection h with hn hk
        have h3' := h3
        simp only [Bool.and_eq_true] at h3
        obtain ⟨b, rfl⟩ := List.isPrefixOf_iff_prefix.1 h3.2
        have ed : ∀ b, (wCd ++ b).drop 7 = b := fun b => rfl
        rw [ed] at ht hn hk
        obtain ⟨p, r', rfl, h4, h5⟩ := cdt_whole b (cdt b).1 (cdt b).2.1 (by rw [← hk])
        rw [← List.append_assoc] at h1 h2 h3' ⊢
        refine ⟨wCd ++ p, r', rfl, by rw [← hn, h4]; simp [wCd]; omega, fun x => ?_⟩
        unfold dcl
        rw [if_neg (by rw [pre_stab _ (wCd ++ p) x r' (by decide)]; exact h1), if_neg (by rw [wd_stab _ (wCd ++ p) x r' wDoc_62]; exact h2), if_pos (by rw [pre_stab _ (wCd ++ p) x r' wCd_62]; exact h3')]
        rw [List.append_assoc, ed, h5 x, ← ht, ← hn]
      · rw [if_neg h3] at h
        injection h with ht h
        injection h with hn hk
        have e0 := bgR_bg [] 0 r
        rw [List.nil_append, Nat.zero_add, hk] at e0
        obtain ⟨p, r', rfl, h4, h5⟩ := bgR_whole [] 0 r _ _ e0
        refine ⟨p, r', rfl, by omega, fun x => ?_⟩
        have e := h5 x
        rw [bgR_bg, List.nil_append, Nat.zero_add] at e
        unfold dcl
        rw [if_neg (by rw [pre_stab _ p x r' (by decide)]; exact h1), if_neg (by rw [wd_stab _ p x r' wDoc_62]; exact h2), if_neg (by rw [pre_stab _ p x r' wCd_62]; exact h3)]
        rw [show bg (p ++ 62 :: x) = _ from e, ← ht, ← hn]
theorem dcl_open (cd : Bool) (r : List UInt8) (t : Tk) (n : Nat) (h : dcl cd r = (t, n, false)) : n = r.length := by
  unfold dcl at h
  by_cases h1 : Lib.hasPrefix r [45, 45] = true
  · rw [if_pos h1] at h
    obtain ⟨r1, rfl⟩ := List.isPrefixOf_iff_prefix.1 h1
    simp only [List.cons_append, List.nil_append, List.drop_succ_cons, List.drop_zero] at h
    injection h with ht h
    injection h with hn hk
    have := cmR_open 0 [] 0 r1 (cm r1).1 (cm r1).2.1 (by rw [cm_cmR, ← hk])
    simp; omega
  · rw [if_neg h1] at h
    by_cases h2 : wd wDoc r = true
    · rw [if_pos h2] at h
      injection h with ht h
      injection h with hn hk
      have := dR_open 0 1 0 { kind := 5 } (r.drop 7) (dt (r.drop 7)).1 (dt (r.drop 7)).2.1 (by rw [dt_dR, ← hk])
      rw [this] at hn
      simpa using hn.symm
    · rw [if_neg h2] at h
      by_cases h3 : (cd && Lib.hasPrefix r wCd) = true
      · rw [if_pos h3] at h
        injection h with ht h
        injection h with hn hk
        simp only [Bool.and_eq_true] at h3
        obtain ⟨b, rfl⟩ := List.isPrefixOf_iff_prefix.1 h3.2
        have ed : ∀ b, (wCd ++ b).drop 7 = b := fun b => rfl
        rw [ed] at ht hn hk
        have := cdt_open b (cdt b).1 (cdt b).2.1 (by rw [← hk])
        simp [wCd]; omega
      · rw [if_neg h3] at h
        injection h with ht h
        injection h with hn hk
        have e0 := bgR_bg [] 0 r
        rw [List.nil_append, Nat.zero_add, hk] at e0
        have := bgR_open [] 0 r _ _ e0
        omega
end Go.Proofs.YtileclmmobkcaaaDoor
