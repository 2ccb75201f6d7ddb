/-
  The contract of text.Valid; plain laws on the ends of lines over code points. The condition: the tables read as they were laid.
-/
import Derived.Test.YteffnlelmcbgmaaDoorLibv
import Derived.Test.YteffnlelmcbgmaaDoorRnt
import Derived.Test.YteffnlelmcbgmaaDoorTxn
import Derived.Test.YteffnlelmcbgmaaDoorJoi
set_option linter.unusedVariables false
namespace Go.Proofs.YteffnlelmcbgmaaDoor
open Go.RowKit Go.Shelf Go.Lib

theorem valid_calls (s : ByteArray) (hs : s.size ≤ 1099511627776) (w : World) (hT : Tabs w) :
    Calls Tryd.prog 29 #[.string s] w fun e w' => e = .returned (.bool (validD s.data.toList)) ∧ Below w.heap.size w w' := by
  have H : Hid (∀ w, Tabs w → Calls Tryd.prog 41 #[.string s] w fun e w' => e = .returned (.bool (validD s.data.toList)) ∧ Below w.heap.size w w') := fun w h => Any.utf8_ValidString Lv.n196 s w (by omega) h
  have HT := Lib.hid hT
  clear hT
  generalize validD s.data.toList = v at *
  go_enter Tryd.func29, Tryd.ntmps29
  go_wp2_with fail
  refine (H.out _ HT.out).mono ?_
  rintro e w1 ⟨rfl, hb1⟩
  go_wp2
  go_ret
  exact ⟨rfl, hb1⟩

/-- Lines that end with a byte 10, over code points. -/
def crlfR : List Int → List Int
  | [] => []
  | [c] => [c]
  | c :: d :: r => if c = 13 ∧ d = 10 then 10 :: crlfR r else c :: crlfR (d :: r)
def nrmR (l : List Int) : List Int := (crlfR l).map fun c => if c = 13 then 10 else c

/-- A code point's bytes hold a byte 13, or 10, just where it is that one. -/
theorem enc_big (r : Int) (h : Sc r) (h1 : 128 ≤ r) : ∀ x ∈ encodeRune r, 128 ≤ x.toNat := by
  obtain ⟨h0, h2, h3⟩ := h
  intro x hx
  unfold encodeRune at hx
  by_cases a2 : r ≤ 2047
  · rw [encodeRuneZ_two (by omega) a2] at hx
    simp only [List.map_cons, List.map_nil, List.mem_cons, List.mem_nil_iff, or_false] at hx
    rcases hx with rfl | rfl <;> rw [byte_toNat _ (by omega) (by omega)] <;> omega
  by_cases a3 : r ≤ 65535
  · rw [encodeRuneZ_three (by omega)] at hx
    simp only [List.map_cons, List.map_nil, List.mem_cons, List.mem_nil_iff, or_false] at hx
    rcases hx with rfl | rfl | rfl <;> rw [byte_toNat _ (by omega) (by omega)] <;> omega
  · rw [encodeRuneZ_four (by omega) (by omega)] at hx
    simp only [List.map_cons, List.map_nil, List.mem_cons, List.mem_nil_iff, or_false] at hx
    rcases hx with rfl | rfl | rfl | rfl <;> rw [byte_toNat _ (by omega) (by omega)] <;> omega
theorem enc_small (r : Int) (h0 : 0 ≤ r) (h1 : r < 128) : encodeRune r = [r.toNat.toUInt8] := by
  unfold encodeRune; rw [encodeRuneZ_one h0 (by omega)]; rfl
theorem crlf_big (a t : List UInt8) (h : ∀ x ∈ a, 128 ≤ x.toNat) : crlf (a ++ t) = a ++ crlf t := by
  induction a with
  | nil => rfl
  | cons c a ih =>
    rw [List.cons_append, crlf_cons, ih (fun x hx => h x (by simp [hx]))]
    · rfl
    · rintro ⟨rfl, _⟩
      have := h 13 (by simp)
      simp at this
theorem crlfR_cons (c : Int) (r : List Int) (h : ¬ (c = 13 ∧ r.head? = some 10)) : crlfR (c :: r) = c :: crlfR r := by
  match r with
  | [] => rfl
  | d :: r => rw [crlfR, if_neg (by simpa using h)]
theorem enc_head10 (rs : List Int) (h : ∀ r ∈ rs, Sc r) : (encR rs).head? = some 10 ↔ rs.head? = some 10 := by
  match rs, h with
  | [], _ => simp [encR]
  | r :: rs, h =>
    rw [encR_cons]
    have hs := h r (by simp)
    by_cases hr : 128 ≤ r
    · have hb := enc_big r hs hr
      have hne := enc_ne r
      match hh : encodeRune r, hb, hne with
      | x :: t, hb, _ =>
        have := hb x (by simp)
        simp only [List.cons_append, List.head?_cons, Option.some.injEq]
        constructor
        · intro e; subst e; simp at this
        · intro e; omega
    · have h0 := hs.1
      rw [enc_small r h0 (by omega)]
      simp only [List.cons_append, List.nil_append, List.head?_cons, Option.some.injEq]
      constructor
      · intro e
        have := congrArg UInt8.toNat e
        rw [byte_toNat _ h0 (by omega)] at this
        have h10 : (10 : UInt8).toNat = 10 := rfl
        omega
      · rintro rfl; rfl
theorem crlf_encR (n : Nat) (rs : List Int) (hn : rs.length ≤ n) (h : ∀ r ∈ rs, Sc r) : crlf (encR rs) = encR (crlfR rs) := by
  induction n generalizing rs with
  | zero => rw [List.length_eq_zero_iff.1 (by omega : rs.length = 0)]; rfl
  | succ n ih =>
    match rs, hn, h with
    | [], _, _ => rfl
    | r :: rs, hn, h =>
      have hs := h r (by simp)
      have ht : ∀ r ∈ rs, Sc r := fun r hr => h r (by simp [hr])
      have hl : rs.length ≤ n := by simpa using hn
      rw [encR_cons]
      by_cases hr : 128 ≤ r
      · rw [crlf_big _ _ (enc_big r hs hr), ih rs hl ht, crlfR_cons _ _ (by omega), encR_cons]
      · rw [enc_small r hs.1 (by omega)]
        by_cases hc : r = 13 ∧ rs.head? = some 10
        · obtain ⟨rfl, h10⟩ := hc
          match rs, h10, hl, ht with
          | d :: rs, h10, hl, ht =>
            simp only [List.head?_cons, Option.some.injEq] at h10
            subst h10
            rw [encR_cons, enc_small 10 (by omega) (by omega)]
            show crlf (13 :: 10 :: encR rs) = encR (crlfR (13 :: 10 :: rs))
            rw [crlf_hit, crlfR, if_pos ⟨rfl, rfl⟩, encR_cons, ih rs (by simp at hl; omega) (fun r hr => ht r (by simp [hr]))]
            rfl
        · rw [List.singleton_append, crlf_cons, ih rs hl ht, crlfR_cons _ _ hc, encR_cons, enc_small r hs.1 (by omega)]
          · rfl
          · rintro ⟨e1, e2⟩
            rw [enc_head10 rs ht] at e2
            refine hc ⟨?_, e2⟩
            have := congrArg UInt8.toNat e1
            rw [byte_toNat _ hs.1 (by omega)] at this
            have h13 : (13 : UInt8).toNat = 13 := rfl
            have := hs.1
            omega
theorem crlfR_mem (n : Nat) (rs : List Int) (hn : rs.length ≤ n) : ∀ r ∈ crlfR rs, r = 10 ∨ r ∈ rs := by
  induction n generalizing rs with
  | zero => rw [List.length_eq_zero_iff.1 (by omega : rs.length = 0)]; simp [crlfR]
  | succ n ih =>
    match rs, hn with
    | [], _ => simp [crlfR]
    | [c], _ => simp [crlfR]
    | c :: d :: r, hn =>
      intro x hx
      rw [crlfR] at hx
      split at hx
      · rcases List.mem_cons.1 hx with rfl | hx
        · exact .inl rfl
        · rcases ih r (by simp at hn; omega) x hx with h | h
          · exact .inl h
          · exact .inr (by simp [h])
      · rcases List.mem_cons.1 hx with rfl | hx
        · exact .inr (by simp)
        · rcases ih (d :: r) (by simpa using hn) x hx with h | h
          · exact .inl h
          · exact .inr (List.mem_cons_of_mem _ h)
theorem map13_enc (rs : List Int) (h : ∀ r ∈ rs, Sc r) : ((encR rs).map fun c => if c = 13 then (10 : UInt8) else c) = encR (rs.map fun c => if c = 13 then 10 else c) := by
  induction rs with
  | nil => rfl
  | cons r rs ih =>
    have hs := h r (by simp)
    rw [encR_cons, List.map_append, ih (fun r hr => h r (by simp [hr])), List.map_cons, encR_cons]
    congr 1
    by_cases hr : 128 ≤ r
    · rw [if_neg (by omega)]
      conv => rhs; rw [← List.map_id (encodeRune r)]
      apply List.map_congr_left
      intro x hx
      have := enc_big r hs hr x hx
      rw [if_neg]
      · rfl
      · rintro rfl; simp at this
    · rw [enc_small r hs.1 (by omega)]
      by_cases h13 : r = 13
      · subst h13; rfl
      · rw [if_neg h13, enc_small r hs.1 (by omega)]
        simp only [List.map_cons, List.map_nil]
        rw [if_neg]
        intro e
        have := congrArg UInt8.toNat e
        rw [byte_toNat _ hs.1 (by omega)] at this
        have h13' : (13 : UInt8).toNat = 13 := rfl
        have := hs.1
        omega
theorem crlfR_sc (rs : List Int) (h : ∀ r ∈ rs, Sc r) : ∀ r ∈ crlfR rs, Sc r := by
  intro r hr
  rcases crlfR_mem _ rs (Nat.le_refl _) r hr with rfl | hr
  · unfold Sc; omega
  · exact h r hr
theorem nrmR_sc (rs : List Int) (h : ∀ r ∈ rs, Sc r) : ∀ r ∈ nrmR rs, Sc r := by
  intro r hr
  obtain ⟨x, hx, rfl⟩ := List.mem_map.1 hr
  split
  · unfold Sc; omega
  · exact crlfR_sc rs h x hx
theorem nrm_encR (rs : List Int) (h : ∀ r ∈ rs, Sc r) : nrm (encR rs) = encR (nrmR rs) := by
  unfold nrm nrmR
  rw [crlf_encR _ rs (Nat.le_refl _) h, map13_enc _ (crlfR_sc rs h)]
theorem inp_encR (l : List UInt8) : inp l = encR (nrmR (rns l)) := by
  unfold inp; rw [decd_rns, nrm_encR _ (rns_sc l)]
theorem nrm_no13 (l : List UInt8) : (13 : UInt8) ∉ nrm l := by
  intro h
  obtain ⟨x, _, hx⟩ := List.mem_map.1 h
  split at hx
  · cases hx
  · rename_i h; exact h hx
theorem crlf_none (l : List UInt8) (h : (13 : UInt8) ∉ l) : crlf l = l := by
  induction l with
  | nil => rfl
  | cons c l ih =>
    rw [crlf_cons, ih (fun e => h (by simp [e]))]
    rintro ⟨rfl, _⟩
    exact h (by simp)
theorem nrm_none (l : List UInt8) (h : (13 : UInt8) ∉ l) : nrm l = l := by
  unfold nrm
  rw [crlf_none l h]
  conv => rhs; rw [← List.map_id l]
  apply List.map_congr_left
  intro x hx
  rw [if_neg]
  · rfl
  · rintro rfl; exact h hx
theorem enc_no13 (rs : List Int) (h : ∀ r ∈ rs, Sc r) (h13 : (13 : Int) ∉ rs) : (13 : UInt8) ∉ encR rs := by
  intro hm
  obtain ⟨r, hr, hx⟩ := List.mem_flatMap.1 hm
  have hs := h r hr
  by_cases hr8 : 128 ≤ r
  · have := enc_big r hs hr8 13 hx; simp at this
  · rw [enc_small r hs.1 (by omega)] at hx
    simp only [List.mem_cons, List.mem_nil_iff, or_false] at hx
    have := congrArg UInt8.toNat hx
    rw [byte_toNat _ hs.1 (by omega)] at this
    have h13' : (13 : UInt8).toNat = 13 := rfl
    have : r = 13 := by have := hs.1; omega
    subst this
    exact h13 hr
/-- What TextOnce says. -/
theorem once_valid1 (l : List UInt8) : validD (decd l) = true := (valid_decd _).2 (decd_decd l)
theorem once_valid2 (l : List UInt8) : validD (inp l) = true := by rw [inp_encR]; exact valid_of_encR _ (nrmR_sc _ (rns_sc l))
theorem once_inp (l : List UInt8) : inp (inp l) = inp l := by
  have h1 : decd (inp l) = inp l := (valid_decd _).1 (once_valid2 l)
  show nrm (decd (inp l)) = inp l
  rw [h1]
  exact nrm_none _ (nrm_no13 _)
theorem once_same (l : List UInt8) (h : (13 : Int) ∉ rns l) : inp l = decd l := by
  unfold inp
  rw [decd_rns]
  exact nrm_none _ (enc_no13 _ (rns_sc l) h)
end Go.Proofs.YteffnlelmcbgmaaDoor
