/-
  Contracts of lacunaref01.Alpha and Digit, lacunaref19.letters. The condition: the text takes at most 2 to the 47th bytes.
-/
/-
  Contracts of lacunaref06.Among and lacunaref19.Name. The condition: the text takes at most 2 to the 47th bytes.
-/
/-
  The contract of lacunaref19.find, at two opening or closing brackets. The condition: the text takes at most 2 to the 24th bytes.
-/
import Derived.Test.YtdgcdjpjnhlihaaGreatDoorMgMath
set_option linter.unusedVariables false
set_option linter.unusedSimpArgs false
namespace Go.Proofs.YtdgcdjpjnhlihaaGreatDoor
open Go.RowKit Go.Shelf

/-- May a word have this byte there? -/
def okAt (l : By) (i : Nat) : Bool := wdB (l.getD i 0) && (decide (0 < i) || !dgB (l.getD i 0))
theorem letsR_no (l : By) (i : Nat) (hi : i < l.length) (h : okAt l i = false) : lets l = false := by
  cases l with
  | nil => simp at hi
  | cons c r =>
    unfold okAt at h
    unfold lets
    cases i with
    | zero =>
      simp only [List.getD_cons_zero] at h
      cases h1 : wdB c <;> cases h2 : dgB c <;> simp_all
    | succ i =>
      have hr : i < r.length := by simpa using hi
      have hw : wdB (r.getD i 0) = false := by simpa using h
      have : r.all wdB = false := by
        rw [Bool.eq_false_iff]
        intro e
        have := List.all_eq_true.1 e (r.getD i 0) (by rw [List.getD_eq_getElem?_getD, List.getElem?_eq_getElem hr]; exact List.getElem_mem hr)
        rw [this] at hw; cases hw
      show (decide (r.length + 1 ≤ 64) && !dgB c && wdB c && r.all wdB) = false
      rw [this, Bool.and_false]
theorem letsR_yes (l : By) (h : ∀ i, i < l.length → okAt l i = true) : lets l = (decide (l ≠ []) && decide (l.length ≤ 64)) := by
  cases l with
  | nil => rfl
  | cons c r =>
    have h0 := h 0 (by simp)
    unfold okAt at h0
    simp at h0
    have h1 : r.all wdB = true := by
      rw [List.all_eq_true]
      intro x hx
      obtain ⟨i, hi⟩ := List.mem_iff_getElem?.1 hx
      have hlt := (List.getElem?_eq_some_iff.1 hi).1
      have := h (i + 1) (by simpa using hlt)
      unfold okAt at this
      simp [List.getD_eq_getElem?_getD, hi] at this
      exact this
    show (decide (r.length + 1 ≤ 64) && !dgB c && wdB c && r.all wdB) = _
    rw [h0.1, h0.2, h1]
    simp
theorem al_is (c : UInt8) : isAlpha ((c.toNat : Nat) : Int) = alB c := by unfold isAlpha alB; rw [Bool.eq_iff_iff]; simp; omega
theorem dg_is (c : UInt8) : isDigit ((c.toNat : Nat) : Int) = dgB c := by unfold isDigit dgB; rw [Bool.eq_iff_iff]; simp; omega
theorem get_bl (s : ByteArray) (i : Nat) (h : i < s.size) : (bl s).getD i 0 = s[i] := byte_get s i h
theorem u95 (c : UInt8) : ((c.toNat : Int) == 95) = decide (c = 95) := by
  rw [Bool.eq_iff_iff]; simp
  constructor
  · intro h; exact UInt8.toNat_inj.1 (show c.toNat = 95 by omega)
  · rintro rfl; rfl
set_option maxRecDepth 100000 in
set_option maxHeartbeats 4000000 in
theorem lettersR_calls (s : ByteArray) (hs : s.size ≤ 140737488351232) (w : World) :
    Calls Tryz.prog 64 #[.string s] w fun e w' => e = .returned (.bool (lets (bl s))) ∧ w = w' := by
  have HY := Lib.hid (letsR_yes (bl s))
  have HN := Lib.hid (letsR_no (bl s))
  obtain ⟨R, hR⟩ : ∃ R, lets (bl s) = R := ⟨_, rfl⟩
  rw [hR] at HY HN ⊢
  go_enter Tryz.func64, Tryz.ntmps64
  go_wp2_with fail
  go_loopw [3] (fun i wr => ∃ k : Nat, i = .int .i64 (k : Nat) ∧ k ≤ s.size ∧ wr = w ∧ Hid (∀ j, j < k → okAt (bl s) j = true)) (fun i _ => s.size - (intOf i).toNat)
  case atStart => exact ⟨0, rfl, Nat.zero_le _, rfl, fun j hj => by omega⟩
  case round =>
    obtain ⟨k, rfl, hk, rfl, HK⟩ := hrel
    by_cases hlt : k < s.size
    · have hlt' : (k : Int) < (s.size : Int) := by omega
      obtain ⟨c, hc⟩ : ∃ c, s[k] = c := ⟨_, rfl⟩
      have hgc : (bl s).getD k 0 = c := by rw [get_bl s k hlt, hc]
      have AL : Hid (Calls Tryz.prog 108 #[.int .i32 ((c.toNat : Nat) : Int)] wr fun e w' => e = .returned (.bool (alB c)) ∧ wr = w') := by have := alphaR_calls ((c.toNat : Nat) : Int) wr; rwa [al_is] at this
      have DG : Hid (Calls Tryz.prog 109 #[.int .i32 ((c.toNat : Nat) : Int)] wr fun e w' => e = .returned (.bool (dgB c)) ∧ wr = w') := by have := digitR_calls ((c.toNat : Nat) : Int) wr; rwa [dg_is] at this
      have h95 := u95 c
      have hc0 : (0 : Int) ≤ (c.toNat : Int) := by omega
      have hc1 : (c.toNat : Int) ≤ 255 := by have := c.toNat_lt; omega
      have HO : Hid (okAt (bl s) k = ((alB c || dgB c || decide (c = 95)) && (decide (0 < k) || !dgB c))) := by unfold Hid okAt; rw [hgc]; rfl
      have hsz : (bl s).length = s.size := rfl
      have HNX : Hid (okAt (bl s) k = true → ∀ j, j < k + 1 → okAt (bl s) j = true) := fun h j hj => by
        rcases Nat.lt_succ_iff_lt_or_eq.1 hj with h1 | rfl
        · exact HK.out j h1
        · exact h
      have HNN : Hid (okAt (bl s) k = false → R = false) := fun h => HN.out k (by omega) h
      have HDJ : Hid (((alB c || decide (c = 95)) && dgB c) = false) := by
        unfold Hid
        rw [Bool.eq_false_iff]
        intro h
        simp [alB, dgB] at h
        obtain ⟨h1, h2⟩ := h
        rcases h1 with h1 | rfl
        · omega
        · simp at h2
      clear hgc
      generalize decide (c = 95) = un at *
      generalize alB c = al at *
      generalize dgB c = dg at *
      by_cases hk0 : 0 < k
      · have hd : decide (0 < k) = true := decide_eq_true hk0
        have HO2 : Hid (okAt (bl s) k = ((al || dg || un) && (true || !dg))) := by unfold Hid; rw [HO.out, hd]
        clear hd HO
        cases al <;> cases un <;> cases dg <;> (
          go_wp2_with (first | (go_at_call 108; refine AL.out.mono ?_; rintro e w' ⟨rfl, rfl⟩) | (go_at_call 109; refine DG.out.mono ?_; rintro e w' ⟨rfl, rfl⟩))
          first
            | exact ⟨⟨k + 1, by go_num, by omega, trivial, HNX.out HO2.out⟩, by simp [intOf]; omega⟩
            | exact ⟨⟨k + 1, by go_num, by omega, rfl, HNX.out HO2.out⟩, by simp [intOf]; omega⟩
            | (go_ret
               exact ⟨ret_bool (HNN.out HO2.out).symm, rfl⟩))
      · have hd : decide (0 < k) = false := decide_eq_false hk0
        have HO2 : Hid (okAt (bl s) k = ((al || dg || un) && (false || !dg))) := by unfold Hid; rw [HO.out, hd]
        clear hd HO
        cases al <;> cases un <;> cases dg <;> first | exact absurd HDJ.out (by decide) | (
          go_wp2_with (first | (go_at_call 108; refine AL.out.mono ?_; rintro e w' ⟨rfl, rfl⟩) | (go_at_call 109; refine DG.out.mono ?_; rintro e w' ⟨rfl, rfl⟩))
          first
            | exact ⟨⟨k + 1, by go_num, by omega, trivial, HNX.out HO2.out⟩, by simp [intOf]; omega⟩
            | exact ⟨⟨k + 1, by go_num, by omega, rfl, HNX.out HO2.out⟩, by simp [intOf]; omega⟩
            | (go_ret
               exact ⟨ret_bool (HNN.out HO2.out).symm, rfl⟩))
    · have hlt' : ¬ (k : Int) < (s.size : Int) := by omega
      have HR : Hid (R = (decide (bl s ≠ []) && decide ((bl s).length ≤ 64))) := HY.out (fun i hi => HK.out i (by have : (bl s).length = s.size := rfl; omega))
      by_cases h0 : s.size = 0
      · have he : s.toList.isEmpty = true := by rw [size0 s h0, ByteArray.toList_eq]; rfl
        have HF : Hid (R = false) := by unfold Hid; rw [HR.out, size0 s h0]; rfl
        clear h0
        go_wp2_with fail
        go_ret
        exact ⟨ret_bool HF.out.symm, rfl⟩
      · have he := ne_str s (by omega)
        have hne : bl s ≠ [] := by intro e; have q : (bl s).length = s.size := rfl; rw [e] at q; simp at q; omega
        have HF : Hid (R = decide ((s.size : Int) ≤ 64)) := by
          unfold Hid; rw [HR.out, decide_eq_true hne, Bool.true_and, Bool.eq_iff_iff]
          simp
          have q : (bl s).length = s.size := rfl
          omega
        clear h0 hne
        go_wp2_with fail
        go_ret
        exact ⟨ret_bool HF.out.symm, rfl⟩
end Go.Proofs.YtdgcdjpjnhlihaaGreatDoor
set_option linter.unusedVariables false
set_option linter.unusedSimpArgs false
namespace Go.Proofs.YtdgcdjpjnhlihaaGreatDoor
open Go.RowKit Go.Shelf

/-- Is s one of the words of w, from a place on? -/
def amF (s w : By) : Nat → Nat → Nat → Bool
  | 0, _, _ => false
  | f + 1, i, j => if w.length < i then false else if i = w.length ∨ w.getD i 0 = 32 then (if (w.drop j).take (i - j) = s ∧ s ≠ [] then true else amF s w f (i + 1) (i + 1)) else amF s w f (i + 1) j
def kwsB : ByteArray := ⟨#[105, 102, 32, 101, 108, 115, 101, 32, 101, 110, 100, 32, 114, 97, 110, 103, 101, 32, 99, 97, 108, 108, 32, 100, 101, 102, 105, 110, 101]⟩
theorem am_kws (s : By) : amF s (bl kwsB) 30 0 0 = kws.contains s := by
  have e : amF s (bl kwsB) 30 0 0 = (if kIf = s ∧ s ≠ [] then true else if kElse = s ∧ s ≠ [] then true else if kEnd = s ∧ s ≠ [] then true else if kRange = s ∧ s ≠ [] then true else if kCall = s ∧ s ≠ [] then true else if kDef = s ∧ s ≠ [] then true else false) := rfl
  rw [e]
  by_cases h1 : kIf = s
  · subst h1; rfl
  by_cases h2 : kElse = s
  · subst h2; rfl
  by_cases h3 : kEnd = s
  · subst h3; rfl
  by_cases h4 : kRange = s
  · subst h4; rfl
  by_cases h5 : kCall = s
  · subst h5; rfl
  by_cases h6 : kDef = s
  · subst h6; rfl
  rw [if_neg (fun h => h1 h.1), if_neg (fun h => h2 h.1), if_neg (fun h => h3 h.1), if_neg (fun h => h4 h.1), if_neg (fun h => h5 h.1), if_neg (fun h => h6 h.1)]
  symm
  rw [Bool.eq_false_iff]
  intro h
  simp [kws] at h
  rcases h with h | h | h | h | h | h
  · exact h1 h.symm
  · exact h2 h.symm
  · exact h3 h.symm
  · exact h4 h.symm
  · exact h5 h.symm
  · exact h6 h.symm
theorem among_calls (s ws : ByteArray) (hs : s.size ≤ 140737488351232) (hw : ws.size ≤ 16777216) (w : World) :
    Calls Tryz.prog 65 #[.string s, .string ws] w fun e w' => e = .returned (.bool (amF (bl s) (bl ws) (ws.size + 1) 0 0)) ∧ w = w' := by
  obtain ⟨R, hR⟩ : ∃ R, amF (bl s) (bl ws) (ws.size + 1) 0 0 = R := ⟨_, rfl⟩
  rw [hR]
  go_enter Tryz.func65, Tryz.ntmps65
  go_wp2_with fail
  go_loopw [5, 6] (fun v5 v6 wr => ∃ j i f : Nat, v5 = .int .i64 (j : Nat) ∧ v6 = .int .i64 (i : Nat) ∧ j ≤ i ∧ i ≤ ws.size + 1 ∧ ws.size + 1 ≤ i + f ∧ wr = w ∧ Hid (amF (bl s) (bl ws) f i j = R)) (fun _ i _ => ws.size + 2 - (intOf i).toNat)
  case atStart => exact ⟨0, 0, ws.size + 1, rfl, rfl, Nat.le_refl _, by omega, by omega, rfl, hR⟩
  case round =>
    obtain ⟨j, i, f, rfl, rfl, hji, hi, hf, rfl, HK⟩ := hrel
    have hwl : (bl ws).length = ws.size := rfl
    by_cases hle : i ≤ ws.size
    · have hle' : (i : Int) ≤ (ws.size : Int) := by omega
      obtain ⟨f, rfl⟩ : ∃ g, f = g + 1 := ⟨f - 1, by omega⟩
      have hE : (ws.extract j i).toList = ((bl ws).drop j).take (i - j) := by
        rw [ByteArray.toList_eq]; show bl _ = _
        unfold bl; simp [ByteArray.data_extract]
      have hj' : (j : Int) ≤ (i : Int) := by omega
      by_cases hsz : i = ws.size
      · have hsz' : ((i : Int) == (ws.size : Int)) = true := by rw [hsz]; exact beq_self_eq_true _
        have HST : Hid (amF (bl s) (bl ws) (f + 1) i j = if ((bl ws).drop j).take (i - j) = bl s ∧ bl s ≠ [] then true else amF (bl s) (bl ws) f (i + 1) (i + 1)) := by
          unfold Hid; rw [amF, if_neg (by omega), if_pos (.inl (by omega))]
        have hle2 : i ≤ ws.size := hle
        clear hsz
        by_cases hq : ((bl ws).drop j).take (i - j) = bl s
        · have q1 : ((ws.extract j i).toList == s.toList) = true := by rw [hE, hq, ByteArray.toList_eq]; exact beq_self_eq_true _
          by_cases h0 : s.size = 0
          · have he : s.toList.isEmpty = true := by rw [size0 s h0, ByteArray.toList_eq]; rfl
            have hb0 : bl s = [] := by rw [size0 s h0]; rfl
            have HNX : Hid (amF (bl s) (bl ws) f (i + 1) (i + 1) = R) := by unfold Hid; rw [← HK.out, HST.out, if_neg (fun h => h.2 hb0)]
            clear hq h0 hb0 hE
            go_wp2_with fail
            exact ⟨⟨i + 1, i + 1, f, by go_num, by go_num, by omega, by omega, by omega, by first | trivial | rfl, HNX⟩, by simp [intOf]; omega⟩
          · have he := ne_str s (by omega)
            have hne : bl s ≠ [] := by intro e; have q : (bl s).length = s.size := rfl; rw [e] at q; simp at q; omega
            have HR : Hid (true = R) := by unfold Hid; rw [← HK.out, HST.out, if_pos ⟨hq, hne⟩]
            clear hq h0 hne hE
            go_wp2_with fail
            go_ret
            exact ⟨ret_bool HR.out, by first | trivial | rfl⟩
        · have q1 : ((ws.extract j i).toList == s.toList) = false := by rw [hE, ByteArray.toList_eq]; exact beq_eq_false_iff_ne.2 hq
          have HNX : Hid (amF (bl s) (bl ws) f (i + 1) (i + 1) = R) := by unfold Hid; rw [← HK.out, HST.out, if_neg (fun h => hq h.1)]
          clear hq hE
          go_wp2_with fail
          exact ⟨⟨i + 1, i + 1, f, by go_num, by go_num, by omega, by omega, by omega, by first | trivial | rfl, HNX⟩, by simp [intOf]; omega⟩
      · have hsz' : ((i : Int) == (ws.size : Int)) = false := beq_eq_false_iff_ne.2 (by omega)
        have hlt : i < ws.size := by omega
        have hgb : (bl ws).getD i 0 = ws[i] := get_bl ws i hlt
        have hsz2 : ¬ (i : Int) = (ws.size : Int) := by omega
        by_cases h32 : ws[i] = 32
        · have q3 : ((ws[i].toNat : Int) == 32) = true := by rw [h32]; rfl
          have HST : Hid (amF (bl s) (bl ws) (f + 1) i j = if ((bl ws).drop j).take (i - j) = bl s ∧ bl s ≠ [] then true else amF (bl s) (bl ws) f (i + 1) (i + 1)) := by
            unfold Hid; rw [amF, if_neg (by omega), if_pos (.inr (by rw [hgb, h32]))]
          clear hsz hgb h32
          by_cases hq : ((bl ws).drop j).take (i - j) = bl s
          · have q1 : ((ws.extract j i).toList == s.toList) = true := by rw [hE, hq, ByteArray.toList_eq]; exact beq_self_eq_true _
            by_cases h0 : s.size = 0
            · have he : s.toList.isEmpty = true := by rw [size0 s h0, ByteArray.toList_eq]; rfl
              have hb0 : bl s = [] := by rw [size0 s h0]; rfl
              have HNX : Hid (amF (bl s) (bl ws) f (i + 1) (i + 1) = R) := by unfold Hid; rw [← HK.out, HST.out, if_neg (fun h => h.2 hb0)]
              clear hq h0 hb0 hE
              go_wp2_with fail
              exact ⟨⟨i + 1, i + 1, f, by go_num, by go_num, by omega, by omega, by omega, by first | trivial | rfl, HNX⟩, by simp [intOf]; omega⟩
            · have he := ne_str s (by omega)
              have hne : bl s ≠ [] := by intro e; have q : (bl s).length = s.size := rfl; rw [e] at q; simp at q; omega
              have HR : Hid (true = R) := by unfold Hid; rw [← HK.out, HST.out, if_pos ⟨hq, hne⟩]
              clear hq h0 hne hE
              go_wp2_with fail
              go_ret
              exact ⟨ret_bool HR.out, by first | trivial | rfl⟩
          · have q1 : ((ws.extract j i).toList == s.toList) = false := by rw [hE, ByteArray.toList_eq]; exact beq_eq_false_iff_ne.2 hq
            have HNX : Hid (amF (bl s) (bl ws) f (i + 1) (i + 1) = R) := by unfold Hid; rw [← HK.out, HST.out, if_neg (fun h => hq h.1)]
            clear hq hE
            go_wp2_with fail
            exact ⟨⟨i + 1, i + 1, f, by go_num, by go_num, by omega, by omega, by omega, by first | trivial | rfl, HNX⟩, by simp [intOf]; omega⟩
        · have q3 : ((ws[i].toNat : Int) == 32) = false := by
            refine beq_eq_false_iff_ne.2 (fun e => h32 ?_)
            exact UInt8.toNat_inj.1 (show _ = (32 : Nat) by omega)
          have HNX : Hid (amF (bl s) (bl ws) f (i + 1) j = R) := by
            unfold Hid; rw [← HK.out]; symm
            rw [amF, if_neg (by omega), if_neg (by rintro (h | h); exact hsz (by omega); exact h32 (by rw [← hgb]; exact h))]
          clear hsz hgb h32 hE
          go_wp2_with fail
          exact ⟨⟨j, i + 1, f, rfl, by go_num, by omega, by omega, by omega, by first | trivial | rfl, HNX⟩, by simp [intOf]; omega⟩
    · have hle' : ¬ (i : Int) ≤ (ws.size : Int) := by omega
      have HR : Hid (false = R) := by
        unfold Hid; rw [← HK.out]
        cases f with
        | zero => rfl
        | succ f => rw [amF, if_pos (by omega)]
      clear hle
      go_wp2_with fail
      go_ret
      exact ⟨ret_bool HR.out, by first | trivial | rfl⟩
/-- A name. -/
theorem nameR_calls (s : ByteArray) (hs : s.size ≤ 140737488351232) (w : World) :
    Calls Tryz.prog 34 #[.string s] w fun e w' => e = .returned (.bool (nameOk (bl s))) ∧ w = w' := by
  have L := Lib.hid (lettersR_calls s hs w)
  have AM : Hid (Calls Tryz.prog 65 #[.string s, .string kwsB] w fun e w' => e = .returned (.bool (kws.contains (bl s))) ∧ w = w') := by
    have := among_calls s kwsB hs (by decide) w
    rw [show kwsB.size + 1 = 30 from rfl, am_kws] at this
    exact this
  have HN : Hid (nameOk (bl s) = (lets (bl s) && !kws.contains (bl s))) := rfl
  unfold kwsB at AM
  generalize nameOk (bl s) = n at *
  generalize kws.contains (bl s) = k at *
  cases hl : lets (bl s) with
  | false =>
    have HN2 : Hid (n = false) := by unfold Hid; rw [HN.out, hl]; rfl
    rw [hl] at L
    clear HN hl
    go_enter Tryz.func34, Tryz.ntmps34
    go_wp2_with fail
    refine L.out.mono ?_
    rintro e w' ⟨rfl, rfl⟩
    go_wp2_with fail
    go_ret
    exact ⟨ret_bool HN2.out.symm, rfl⟩
  | true =>
    have HN2 : Hid (n = !k) := by unfold Hid; rw [HN.out, hl]; rfl
    rw [hl] at L
    clear HN hl
    go_enter Tryz.func34, Tryz.ntmps34
    go_wp2_with fail
    refine L.out.mono ?_
    rintro e w' ⟨rfl, rfl⟩
    go_wp2_with fail
    refine AM.out.mono ?_
    rintro e w' ⟨rfl, rfl⟩
    go_wp2_with fail
    go_ret
    exact ⟨ret_bool HN2.out.symm, rfl⟩
end Go.Proofs.YtdgcdjpjnhlihaaGreatDoor
set_option linter.unusedVariables false
set_option linter.unusedSimpArgs false
namespace Go.Proofs.YtdgcdjpjnhlihaaGreatDoor
open Go.RowKit Go.Shelf

/-- Where two bytes c stand, from a place on. -/
def findI (c : UInt8) (l : By) (k : Nat) : Int := match cut2 c (l.drop k) with
  | none => -1
  | some x => ((k + x.1.length : Nat) : Int)
theorem ext_bl (s : ByteArray) (i j : Nat) (h : j ≤ s.size) : bl (s.extract i j) = ((bl s).drop i).take (j - i) := by
  unfold bl
  simp [ByteArray.data_extract]
theorem find_here {c : UInt8} {l : By} {k : Nat} (h : (l.drop k).take 2 = [c, c]) : findI c l k = (k : Nat) := by
  unfold findI
  match hd : l.drop k with
  | [] => rw [hd] at h; simp at h
  | [x] => rw [hd] at h; simp at h
  | x :: y :: r =>
    rw [hd] at h
    simp at h
    obtain ⟨rfl, rfl⟩ := h
    simp [cut2]
theorem find_on {c : UInt8} {l : By} {k : Nat} (hk : k + 2 ≤ l.length) (h : ¬ (l.drop k).take 2 = [c, c]) : findI c l k = findI c l (k + 1) := by
  unfold findI
  have e : l.drop (k + 1) = (l.drop k).drop 1 := by rw [List.drop_drop]
  rw [e]
  match hd : l.drop k with
  | [] => have := congrArg List.length hd; simp at this; omega
  | [x] => have := congrArg List.length hd; simp at this; omega
  | x :: y :: r =>
    rw [hd] at h
    simp at h
    have h2 : ¬ (x = c ∧ y = c) := fun q => h q.1 q.2
    rw [List.drop_succ_cons, List.drop_zero]
    rw [cut2, if_neg h2]
    cases cut2 c (y :: r) with
    | none => rfl
    | some z =>
      simp
      omega
theorem find_end {c : UInt8} {l : By} {k : Nat} (h : l.length < k + 2) : findI c l k = -1 := by
  unfold findI
  have hl : (l.drop k).length < 2 := by rw [List.length_drop]; omega
  match hd : l.drop k with
  | [] => rfl
  | [x] => rfl
  | x :: y :: r => rw [hd] at hl; simp at hl; omega

set_option maxRecDepth 100000 in
set_option maxHeartbeats 4000000 in
theorem findB_calls (s : ByteArray) (k0 : Nat) (hs : s.size ≤ 16777216) (hk0 : k0 ≤ s.size) (w : World) :
    Calls Tryz.prog 42 #[.string s, .string ⟨#[123, 123]⟩, .int .i64 (k0 : Nat)] w fun e w' => e = .returned (.int .i64 (findI 123 (bl s) k0)) ∧ w = w' := by
  obtain ⟨R, hR⟩ : ∃ R, findI 123 (bl s) k0 = R := ⟨_, rfl⟩
  rw [hR]
  go_enter Tryz.func42, Tryz.ntmps42
  go_wp2_with fail
  go_loopw [7] (fun i wr => ∃ k : Nat, i = .int .i64 (k : Nat) ∧ k ≤ s.size ∧ wr = w ∧ Hid (findI 123 (bl s) k = R)) (fun i _ => s.size + 1 - (intOf i).toNat)
  case atStart => exact ⟨k0, rfl, hk0, rfl, hR⟩
  case round =>
    obtain ⟨k, rfl, hk, rfl, HK⟩ := hrel
    have h2s : (⟨#[123, 123]⟩ : ByteArray).size = 2 := rfl
    by_cases hlt : k + 2 ≤ s.size
    · have hlt' : (k : Int) + 2 ≤ (s.size : Int) := by omega
      have hE : (s.extract k (k + 2)).toList = ((bl s).drop k).take 2 := by rw [ByteArray.toList_eq]; show bl _ = _; rw [ext_bl _ _ _ hlt, show k + 2 - k = 2 by omega]
      by_cases hq : ((bl s).drop k).take 2 = [123, 123]
      · have q1 : ((s.extract k (k + 2)).toList == [123, 123]) = true := by rw [hE, hq]; rfl
        have HR : Hid (((k : Nat) : Int) = R) := by unfold Hid; rw [← HK.out, find_here hq]
        clear hE hq hlt
        go_wp2_with fail
        go_ret
        exact ⟨ret_i64 HR.out, rfl⟩
      · have q1 : ((s.extract k (k + 2)).toList == [123, 123]) = false := by rw [hE]; exact beq_eq_false_iff_ne.2 hq
        have HR : Hid (findI 123 (bl s) (k + 1) = R) := by unfold Hid; rw [← HK.out]; exact (find_on (by have e : (bl s).length = s.size := rfl; omega) hq).symm
        clear hE hq
        go_wp2_with fail
        exact ⟨⟨k + 1, by go_num, by omega, trivial, HR⟩, by simp [intOf]; omega⟩
    · have hlt' : ¬ (k : Int) + 2 ≤ (s.size : Int) := by omega
      have HR : Hid ((-1 : Int) = R) := by unfold Hid; rw [← HK.out]; exact (find_end (by have e : (bl s).length = s.size := rfl; omega)).symm
      clear hlt
      go_wp2_with fail
      go_ret
      exact ⟨ret_i64 HR.out, rfl⟩

set_option maxRecDepth 100000 in
set_option maxHeartbeats 4000000 in
theorem findK_calls (s : ByteArray) (k0 : Nat) (hs : s.size ≤ 16777216) (hk0 : k0 ≤ s.size) (w : World) :
    Calls Tryz.prog 42 #[.string s, .string ⟨#[125, 125]⟩, .int .i64 (k0 : Nat)] w fun e w' => e = .returned (.int .i64 (findI 125 (bl s) k0)) ∧ w = w' := by
  obtain ⟨R, hR⟩ : ∃ R, findI 125 (bl s) k0 = R := ⟨_, rfl⟩
  rw [hR]
  go_enter Tryz.func42, Tryz.ntmps42
  go_wp2_with fail
  go_loopw [7] (fun i wr => ∃ k : Nat, i = .int .i64 (k : Nat) ∧ k ≤ s.size ∧ wr = w ∧ Hid (findI 125 (bl s) k = R)) (fun i _ => s.size + 1 - (intOf i).toNat)
  case atStart => exact ⟨k0, rfl, hk0, rfl, hR⟩
  case round =>
    obtain ⟨k, rfl, hk, rfl, HK⟩ := hrel
    have h2s : (⟨#[125, 125]⟩ : ByteArray).size = 2 := rfl
    by_cases hlt : k + 2 ≤ s.size
    · have hlt' : (k : Int) + 2 ≤ (s.size : Int) := by omega
      have hE : (s.extract k (k + 2)).toList = ((bl s).drop k).take 2 := by rw [ByteArray.toList_eq]; show bl _ = _; rw [ext_bl _ _ _ hlt, show k + 2 - k = 2 by omega]
      by_cases hq : ((bl s).drop k).take 2 = [125, 125]
      · have q1 : ((s.extract k (k + 2)).toList == [125, 125]) = true := by rw [hE, hq]; rfl
        have HR : Hid (((k : Nat) : Int) = R) := by unfold Hid; rw [← HK.out, find_here hq]
        clear hE hq hlt
        go_wp2_with fail
        go_ret
        exact ⟨ret_i64 HR.out, rfl⟩
      · have q1 : ((s.extract k (k + 2)).toList == [125, 125]) = false := by rw [hE]; exact beq_eq_false_iff_ne.2 hq
        have HR : Hid (findI 125 (bl s) (k + 1) = R) := by unfold Hid; rw [← HK.out]; exact (find_on (by have e : (bl s).length = s.size := rfl; omega) hq).symm
        clear hE hq
        go_wp2_with fail
        exact ⟨⟨k + 1, by go_num, by omega, trivial, HR⟩, by simp [intOf]; omega⟩
    · have hlt' : ¬ (k : Int) + 2 ≤ (s.size : Int) := by omega
      have HR : Hid ((-1 : Int) = R) := by unfold Hid; rw [← HK.out]; exact (find_end (by have e : (bl s).length = s.size := rfl; omega)).symm
      clear hlt
      go_wp2_with fail
      go_ret
      exact ⟨ret_i64 HR.out, rfl⟩
end Go.Proofs.YtdgcdjpjnhlihaaGreatDoor
