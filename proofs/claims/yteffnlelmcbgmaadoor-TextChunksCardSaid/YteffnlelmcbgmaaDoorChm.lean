/-
  Plain laws on feeding: however bytes are cut, what a decoder hands out is the bytes' text. No program in sight, no condition.
-/
import Derived.Test.YteffnlelmcbgmaaDoorVal
import Derived.Test.YteffnlelmcbgmaaDoorWrk
import Derived.Test.YteffnlelmcbgmaaDoorWtm
set_option linter.unusedVariables false
namespace Go.Proofs.YteffnlelmcbgmaaDoor
open Go.Lib

theorem pcg_app (k lo hi : Nat) (r y : List UInt8) (n : Nat) (h : hang k lo hi r = false) : pcg k lo hi (r ++ y) n = pcg k lo hi r n := by
  induction k generalizing lo hi r n with
  | zero => simp [pcg]
  | succ k ih =>
    match r, h with
    | [], h => simp [hang] at h
    | x :: r, h =>
      simp only [hang, Bool.and_eq_false_iff, decide_eq_false_iff_not] at h
      rw [List.cons_append, pcg, pcg]
      by_cases hx : lo ≤ x.toNat ∧ x.toNat ≤ hi
      · rw [if_pos hx, if_pos hx]
        exact ih 128 191 r (n + 1) (h.resolve_left (fun e => e hx))
      · rw [if_neg hx, if_neg hx]
/-- No byte that goes on stands in front. -/
def fresh (y : List UInt8) : Prop := ∀ c t, y = c :: t → c.toNat < 128 ∨ 191 < c.toNat
theorem pcg_hang (k lo hi : Nat) (r y : List UInt8) (n : Nat) (h : hang k lo hi r = true) (hlo : 128 ≤ lo) (hhi : hi ≤ 191) (hy : fresh y) : pcg k lo hi (r ++ y) n = (n + r.length, false) := by
  induction k generalizing lo hi r n with
  | zero => simp [hang] at h
  | succ k ih =>
    match r, h with
    | [], h =>
      match y, hy with
      | [], _ => simp [pcg]
      | c :: t, hy =>
        have := hy c t rfl
        rw [List.nil_append, pcg, if_neg (by omega)]; simp
    | x :: r, h =>
      simp only [hang, Bool.and_eq_true, decide_eq_true_eq] at h
      rw [List.cons_append, pcg, if_pos h.1, ih 128 191 r (n + 1) h.2 (by omega) (by omega)]
      simp; omega
theorem lo_ge (c : Nat) : 128 ≤ lof c ∧ hif c ≤ 191 := by unfold lof hif; (repeat' split) <;> omega
theorem pc_app (x y : List UInt8) (hx : x ≠ []) (h : hangs x = false) : pc (x ++ y) = pc x := by
  match x, hx, h with
  | c :: r, _, h =>
    show (if okf c.toNat then pcg (nd c.toNat) (lof c.toNat) (hif c.toNat) (r ++ y) 1 else (1, false)) = (if okf c.toNat then pcg (nd c.toNat) (lof c.toNat) (hif c.toNat) r 1 else (1, false))
    simp only [hangs, Bool.and_eq_false_iff] at h
    by_cases hc : okf c.toNat = true
    · rw [if_pos hc, if_pos hc]
      exact pcg_app _ _ _ _ _ _ (h.resolve_left (by simp [hc]))
    · rw [if_neg hc, if_neg hc]
theorem pc_hang (x y : List UInt8) (h : hangs x = true) (hy : fresh y) : pc (x ++ y) = (x.length, false) := by
  match x, h with
  | c :: r, h =>
    simp only [hangs, Bool.and_eq_true] at h
    show (if okf c.toNat then pcg (nd c.toNat) (lof c.toNat) (hif c.toNat) (r ++ y) 1 else (1, false)) = _
    rw [if_pos h.1, pcg_hang _ _ _ _ _ _ h.2 (lo_ge _).1 (lo_ge _).2 hy]
    simp; omega
/-- No end of it hangs. -/
def NoHang (x : List UInt8) : Prop := ∀ k, hangs (x.drop k) = false
theorem NoHang.drop {x : List UInt8} (h : NoHang x) (n : Nat) : NoHang (x.drop n) := by
  intro k; rw [List.drop_drop]; exact h _
theorem rn_app (x y : List UInt8) (hx : x ≠ []) (hpc : pc (x ++ y) = pc x) : rn (x ++ y) = rn x := by
  have hxy : x ++ y ≠ [] := by simp [hx]
  cases hp : (pc x).2 with
  | false =>
    rw [(pc_no x hx hp).1, (pc_no (x ++ y) hxy (by rw [hpc]; exact hp)).1]
  | true =>
    obtain ⟨h1, h2⟩ := pc_yes x hx hp
    obtain ⟨h3, h4⟩ := pc_yes (x ++ y) hxy (by rw [hpc]; exact hp)
    have hr := pc_range x hx
    rw [hpc, List.take_append_of_le_length hr.2.1, ← h2] at h4
    have e1 := (pc_enc (rn x) h1 []).2
    have e2 := (pc_enc (rn (x ++ y)) h3 []).2
    rw [h4] at e2
    rw [← e1, ← e2]
theorem rns_app (x y : List UInt8) (h : NoHang x ∨ fresh y) : rns (x ++ y) = rns x ++ rns y := by
  revert h
  refine pc_ind (P := fun x => NoHang x ∨ fresh y → rns (x ++ y) = rns x ++ rns y) (fun _ => rfl) ?_ x
  intro x hx ih h
  have hxy : x ++ y ≠ [] := by simp [hx]
  have key : pc (x ++ y) = pc x := by
    cases hh : hangs x with
    | false => exact pc_app x y hx hh
    | true =>
      rcases h with h | h
      · have := h 0; rw [List.drop_zero, hh] at this; cases this
      · rw [pc_hang x y hh h]
        have := pc_hang x [] hh (by intro c t e; cases e)
        rw [List.append_nil] at this
        exact this.symm
  have hr := pc_range x hx
  rw [rns_step _ hxy, key, rn_app x y hx key, List.drop_append_of_le_length hr.2.1, ih, rns_step x hx]
  · rfl
  · rcases h with h | h
    · exact .inl (h.drop _)
    · exact .inr h
theorem rns_hang (x : List UInt8) (h : hangs x = true) : rns x = [65533] := by
  have hx : x ≠ [] := by rintro rfl; cases h
  have := pc_hang x [] h (by intro c t e; cases e)
  rw [List.append_nil] at this
  rw [rns_step x hx, this, (pc_no x hx (by rw [this])).1, List.drop_length]; rfl

/-- What hangs: its beginning hangs; it has at most three bytes; a leading byte stands in front. -/
theorem hang_pre (k lo hi : Nat) (r y : List UInt8) (h : hang k lo hi (r ++ y) = true) : hang k lo hi r = true := by
  induction k generalizing lo hi r with
  | zero => simp [hang] at h
  | succ k ih =>
    match r, h with
    | [], _ => rfl
    | x :: r, h =>
      simp only [List.cons_append, hang, Bool.and_eq_true] at h ⊢
      exact ⟨h.1, ih _ _ _ h.2⟩
theorem hangs_pre (x y : List UInt8) (hx : x ≠ []) (h : hangs (x ++ y) = true) : hangs x = true := by
  match x, hx, h with
  | c :: r, _, h =>
    simp only [List.cons_append, hangs, Bool.and_eq_true] at h ⊢
    exact ⟨h.1, hang_pre _ _ _ _ _ h.2⟩
theorem hang_len (k lo hi : Nat) (r : List UInt8) (h : hang k lo hi r = true) : r.length < k := by
  induction k generalizing lo hi r with
  | zero => simp [hang] at h
  | succ k ih =>
    match r, h with
    | [], _ => simp
    | x :: r, h =>
      simp only [hang, Bool.and_eq_true] at h
      have := ih _ _ _ h.2
      simp; omega
theorem hangs_len (x : List UInt8) (h : hangs x = true) : 1 ≤ x.length ∧ x.length ≤ 3 := by
  match x, h with
  | c :: r, h =>
    simp only [hangs, Bool.and_eq_true] at h
    have := hang_len _ _ _ _ h.2
    have := nd_le c.toNat
    simp; omega
theorem hang_cont (k lo hi : Nat) (r : List UInt8) (h : hang k lo hi r = true) (hlo : 128 ≤ lo) (hhi : hi ≤ 191) : ∀ x ∈ r, 128 ≤ x.toNat ∧ x.toNat ≤ 191 := by
  induction k generalizing lo hi r with
  | zero => simp [hang] at h
  | succ k ih =>
    match r, h with
    | [], _ => simp
    | x :: r, h =>
      simp only [hang, Bool.and_eq_true, decide_eq_true_eq] at h
      intro z hz
      rcases List.mem_cons.1 hz with rfl | hz
      · omega
      · exact ih 128 191 r h.2 (by omega) (by omega) z hz
theorem hangs_tail (c : UInt8) (r : List UInt8) (h : hangs (c :: r) = true) : 191 < c.toNat ∧ ∀ x ∈ r, 128 ≤ x.toNat ∧ x.toNat ≤ 191 := by
  simp only [hangs, Bool.and_eq_true] at h
  refine ⟨?_, hang_cont _ _ _ _ h.2 (lo_ge _).1 (lo_ge _).2⟩
  have := hang_len _ _ _ _ h.2
  unfold nd at this
  split at this <;> omega
theorem fresh_hangs (x y : List UInt8) (h : hangs x = true) : fresh (x ++ y) := by
  match x, h with
  | c :: r, h =>
    intro d t e
    simp only [List.cons_append, List.cons.injEq] at e
    have := (hangs_tail c r h).1
    rw [← e.1]; omega

/-- Where the last piece begins, if it could go on. -/
theorem waitsF_spec (l : List UInt8) (n : Nat) (hn : n ≤ l.length) : (waitsF l n = l.length ∧ ∀ k, 1 ≤ k → k ≤ n → hangs (l.drop (l.length - k)) = false) ∨ (waitsF l n < l.length ∧ hangs (l.drop (waitsF l n)) = true) := by
  induction n with
  | zero => exact .inl ⟨rfl, fun k h1 h2 => by omega⟩
  | succ n ih =>
    unfold waitsF
    cases hh : hangs (l.drop (l.length - (n + 1))) with
    | true => rw [if_pos rfl]; exact .inr ⟨by omega, hh⟩
    | false =>
      rw [if_neg (by simp)]
      rcases ih (by omega) with ⟨h1, h2⟩ | h
      · refine .inl ⟨h1, fun k k1 k2 => ?_⟩
        by_cases e : k = n + 1
        · rw [e]; exact hh
        · exact h2 k k1 (by omega)
      · exact .inr h
theorem waitsP_spec (l : List UInt8) : (waitsP l = l.length ∧ NoHang l) ∨ (waitsP l < l.length ∧ hangs (l.drop (waitsP l)) = true) := by
  rcases waitsF_spec l (min 3 l.length) (by omega) with ⟨h1, h2⟩ | h
  · refine .inl ⟨h1, fun k => ?_⟩
    cases hh : hangs (l.drop k) with
    | false => rfl
    | true =>
      have := hangs_len _ hh
      rw [List.length_drop] at this
      have h3 := h2 (l.length - k) (by omega) (by omega)
      rw [show l.length - (l.length - k) = k by omega, hh] at h3
      cases h3
  · exact .inr h

/-- What a decoder hands out of code points; whether the last was a 13. -/
def crO : Bool → List Int → List UInt8
  | _, [] => []
  | c, r :: rs => (if r = 13 then [10] else if r = 10 ∧ c = true then [] else encodeRune r) ++ crO (decide (r = 13)) rs
def crC : Bool → List Int → Bool
  | c, [] => c
  | _, r :: rs => crC (decide (r = 13)) rs
theorem cr_fold (rs : List Int) (o : List UInt8) (c : Bool) : rs.foldl crStep (o, c) = (o ++ crO c rs, crC c rs) := by
  induction rs generalizing o c with
  | nil => simp [crO, crC]
  | cons r rs ih =>
    rw [List.foldl_cons]
    show rs.foldl crStep (if r = 13 then o ++ [10] else if r = 10 ∧ c = true then o else o ++ encodeRune r, decide (r = 13)) = _
    rw [ih]
    simp only [crO, crC]
    by_cases h13 : r = 13
    · simp [h13]
    · by_cases h10 : r = 10 ∧ c = true
      · simp [h10]
      · simp only [if_neg h13, if_neg h10, List.append_assoc]
theorem crF_eq (cr : Bool) (l : List UInt8) : crF cr (pts l) = (crO cr (rns l), crC cr (rns l)) := by
  have := cr_fold (rns l) [] cr
  rw [List.nil_append] at this
  rw [← this, ← pts_map, List.foldl_map]
  rfl
theorem crO_app (c : Bool) (a b : List Int) : crO c (a ++ b) = crO c a ++ crO (crC c a) b := by
  induction a generalizing c with
  | nil => rfl
  | cons r a ih => simp only [List.cons_append, crO, crC, ih, List.append_assoc]
theorem crC_app (c : Bool) (a b : List Int) : crC c (a ++ b) = crC (crC c a) b := by
  induction a generalizing c with
  | nil => rfl
  | cons r a ih => simp only [List.cons_append, crC, ih]
theorem crO_free (rs : List Int) (h : rs.head? ≠ some 10) : crO true rs = crO false rs := by
  match rs, h with
  | [], _ => rfl
  | r :: rs, h =>
    have : r ≠ 10 := by simpa using h
    simp [crO, this]
theorem crO_nrm (n : Nat) (rs : List Int) (hn : rs.length ≤ n) : crO false rs = encR (nrmR rs) := by
  induction n generalizing rs with
  | zero => rw [List.length_eq_zero_iff.1 (by omega : rs.length = 0)]; rfl
  | succ n ih =>
    match rs, hn with
    | [], _ => rfl
    | r :: rs, hn =>
      have hl : rs.length ≤ n := by simpa using hn
      have e10 : encodeRune 10 = [10] := by decide
      by_cases hc : r = 13 ∧ rs.head? = some 10
      · obtain ⟨rfl, h10⟩ := hc
        match rs, h10, hl with
        | d :: rs, h10, hl =>
          simp only [List.head?_cons, Option.some.injEq] at h10
          subst h10
          have e : nrmR (13 :: 10 :: rs) = 10 :: nrmR rs := by
            unfold nrmR; rw [crlfR, if_pos ⟨rfl, rfl⟩]; rfl
          rw [e, encR_cons, e10, ← ih rs (by simp at hl; omega)]
          simp [crO]
      · have e : nrmR (r :: rs) = (if r = 13 then 10 else r) :: nrmR rs := by
          unfold nrmR; rw [crlfR_cons _ _ hc]; rfl
        rw [e, encR_cons, ← ih rs hl]
        by_cases h13 : r = 13
        · subst h13
          rw [if_pos rfl, e10]
          show [10] ++ crO true rs = _
          rw [crO_free _ (fun h => hc ⟨rfl, h⟩)]
        · rw [if_neg h13]
          simp [crO, h13]
theorem inp_cr (l : List UInt8) : inp l = crO false (rns l) := by rw [inp_encR, crO_nrm _ _ (Nat.le_refl _)]

/-- A decoder that was fed these bytes, has handed out and keeps. -/
def InvC (pre out part : List UInt8) (cr : Bool) : Prop :=
  ∃ X, pre = X ++ part ∧ out = crO false (rns X) ∧ cr = crC false (rns X) ∧ ((part = [] ∧ NoHang X) ∨ hangs part = true)
theorem InvC.start : InvC [] [] [] false := ⟨[], rfl, rfl, rfl, .inl ⟨rfl, fun k => by simp [hangs]⟩⟩
theorem InvC.len {pre out part : List UInt8} {cr : Bool} (h : InvC pre out part cr) : part.length ≤ 3 := by
  obtain ⟨X, _, _, _, ⟨rfl, _⟩ | h⟩ := h
  · simp
  · exact (hangs_len _ h).2
theorem InvC.feed {pre out part : List UInt8} {cr : Bool} (h : InvC pre out part cr) (y : List UInt8) : InvC (pre ++ y) (out ++ (fdO part y cr).1) (fdP part y) (fdO part y cr).2 := by
  obtain ⟨X, rfl, rfl, rfl, h⟩ := h
  have hf : fdO part y (crC false (rns X)) = (crO (crC false (rns X)) (rns ((part ++ y).take (waitsP (part ++ y)))), crC (crC false (rns X)) (rns ((part ++ y).take (waitsP (part ++ y))))) := crF_eq _ _
  have hX : rns (X ++ (part ++ y).take (waitsP (part ++ y))) = rns X ++ rns ((part ++ y).take (waitsP (part ++ y))) := by
    refine rns_app _ _ ?_
    rcases h with ⟨_, h⟩ | h
    · exact .inl h
    · refine .inr ?_
      intro c t e
      have hfr := fresh_hangs part y h
      have e2 := List.take_append_drop (waitsP (part ++ y)) (part ++ y)
      rw [e, List.cons_append] at e2
      exact hfr c _ e2.symm
  refine ⟨X ++ (part ++ y).take (waitsP (part ++ y)), ?_, ?_, ?_, ?_⟩
  · unfold fdP
    rw [List.append_assoc, List.append_assoc, List.take_append_drop]
  · rw [hf, hX, crO_app]
  · rw [hf, hX, crC_app]
  · unfold fdP
    rcases waitsP_spec (part ++ y) with ⟨h1, h2⟩ | ⟨_, h2⟩
    · left
      rw [h1, List.drop_length, List.take_length]
      refine ⟨rfl, fun k => ?_⟩
      by_cases hk : X.length ≤ k
      · rw [List.drop_append, List.drop_of_length_le hk, List.nil_append]; exact h2 _
      · cases hh : hangs ((X ++ (part ++ y)).drop k) with
        | false => rfl
        | true =>
          exfalso
          rw [List.drop_append_of_le_length (by omega)] at hh
          have hne : X.drop k ≠ [] := by intro e; have := congrArg List.length e; simp at this; omega
          rcases h with ⟨_, h⟩ | h
          · have := hangs_pre _ _ hne hh
            rw [h k] at this; cases this
          · match hd : X.drop k, hne with
            | c :: r, _ =>
              rw [hd, List.cons_append] at hh
              match part, h with
              | p :: q, h =>
                have h3 := (hangs_tail p q h).1
                have h4 := (hangs_tail c _ hh).2 p (by simp)
                omega
    · exact .inr h2
theorem InvC.close {pre out part : List UInt8} {cr : Bool} (h : InvC pre out part cr) : out ++ decd part = inp pre := by
  obtain ⟨X, rfl, rfl, rfl, h⟩ := h
  rw [inp_cr]
  rcases h with ⟨rfl, _⟩ | h
  · rw [List.append_nil]; simp [decd_rns, rns_nil, encR]
  · have hfr := fresh_hangs part [] h
    rw [List.append_nil] at hfr
    rw [rns_app X part (.inr hfr), crO_app, decd_rns, rns_hang part h]
    simp [crO, encR]
end Go.Proofs.YteffnlelmcbgmaaDoor
