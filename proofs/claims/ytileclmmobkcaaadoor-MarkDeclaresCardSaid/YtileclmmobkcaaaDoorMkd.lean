/-
  Plain laws on declarations: a comment of a text without its ends; a DOCTYPE of a name and two identifiers. No program in sight, no condition.
-/
import Derived.Test.YtileclmmobkcaaaDoorMkc
namespace Go.Proofs.YtileclmmobkcaaaDoor

theorem wh_self (l : List UInt8) (h : 0 ∉ l) : wh l = l := by
  induction l with
  | nil => rfl
  | cons c l ih =>
    rw [wh_cons, ih (fun h2 => h (List.mem_cons_of_mem _ h2))]
    unfold whB
    rw [if_neg (fun e => h (by rw [e]; exact List.mem_cons_self ..))]
    rfl
theorem fe_plain (s more : List UInt8) (h1 : Lib.index s [45, 45, 62] = -1) (h2 : Lib.index s [45, 45, 33, 62] = -1) (h3 : Lib.hasSuffix s [45] = false) (h4 : Lib.hasSuffix s [45, 45, 33] = false) :
    fe (s ++ 45 :: 45 :: 62 :: more) = (s.length, s.length + 3, true) := by
  induction s with
  | nil => simp [fe, List.isPrefixOf]
  | cons c s ih =>
    have p1 : ¬ [45, 45, 62].isPrefixOf (c :: s) = true := by
      intro h
      rw [Lib.index, if_pos h] at h1
      cases h1
    have p2 : ¬ [45, 45, 33, 62].isPrefixOf (c :: s) = true := by
      intro h
      rw [Lib.index, if_pos h] at h2
      cases h2
    rw [index_cons c s _ p1] at h1
    rw [index_cons c s _ p2] at h2
    have g1 := Lib.index_ge s [45, 45, 62]
    have g2 := Lib.index_ge s [45, 45, 33, 62]
    have i1 : Lib.index s [45, 45, 62] = -1 := by
      split at h1
      · assumption
      · omega
    have i2 : Lib.index s [45, 45, 33, 62] = -1 := by
      split at h2
      · assumption
      · omega
    have sf : ∀ w, Lib.hasSuffix (c :: s) w = false → Lib.hasSuffix s w = false := by
      intro w h
      cases hs : Lib.hasSuffix s w with
      | false => rfl
      | true =>
        rw [← h]
        symm
        unfold Lib.hasSuffix at hs ⊢
        rw [List.isSuffixOf_iff_suffix] at hs ⊢
        exact hs.trans (List.suffix_cons c s)
    have q1 : ¬ [45, 45, 62].isPrefixOf (c :: (s ++ 45 :: 45 :: 62 :: more)) = true := by
      intro h
      match s, h with
      | [], h =>
        simp [List.isPrefixOf] at h
      | [d], h => simp [List.isPrefixOf] at h
      | d :: e :: s, h => apply p1; simpa [List.isPrefixOf] using h
    have q2 : ¬ [45, 45, 33, 62].isPrefixOf (c :: (s ++ 45 :: 45 :: 62 :: more)) = true := by
      intro h
      match s, h with
      | [], h => simp [List.isPrefixOf] at h
      | [d], h => simp [List.isPrefixOf] at h
      | [d, e], h => simp [List.isPrefixOf] at h
      | d :: e :: f :: s, h => apply p2; simpa [List.isPrefixOf] using h
    rw [List.cons_append, fe, if_neg q1, if_neg q2, if_neg, ih i1 i2 (sf _ h3) (sf _ h4)]
    · simp
    · rintro (h | h | h)
      · have := congrArg List.length h; simp at this <;> omega
      · have := congrArg List.length h; simp at this <;> omega
      · have := congrArg List.length h; simp at this <;> omega
theorem cm_plain (s more : List UInt8) (h0 : 0 ∉ s) (h1 : Lib.index s [45, 45, 62] = -1) (h2 : Lib.index s [45, 45, 33, 62] = -1) (h3 : Lib.hasSuffix s [45] = false) (h4 : Lib.hasSuffix s [45, 45, 33] = false)
    (h5 : Lib.hasPrefix s [62] = false) (h6 : Lib.hasPrefix s [45, 62] = false) :
    cm (s ++ 45 :: 45 :: 62 :: more) = (s, s.length + 3, true) := by
  have e := fe_plain s more h1 h2 h3 h4
  rw [cmE_fe] at e
  have p1 : ¬ Lib.hasPrefix (s ++ 45 :: 45 :: 62 :: more) [62] = true := by
    match s, h5 with
    | [], _ => simp [Lib.hasPrefix, List.isPrefixOf]
    | c :: s, h5 => simp [Lib.hasPrefix, List.isPrefixOf] at h5 ⊢; exact h5
  have p2 : ¬ Lib.hasPrefix (s ++ 45 :: 45 :: 62 :: more) [45, 62] = true := by
    match s, h6, h3 with
    | [], _, _ => simp [Lib.hasPrefix, List.isPrefixOf]
    | [c], _, h3 => simp [Lib.hasPrefix, List.isPrefixOf]
    | c :: d :: s, h6, _ => simp [Lib.hasPrefix, List.isPrefixOf] at h6 ⊢; exact h6
  unfold cm
  rw [if_neg p1, if_neg p2]
  by_cases hl : 0 < (cmE (s ++ 45 :: 45 :: 62 :: more)).2
  · rw [if_pos hl] at e ⊢
    injection e with e1 e2
    injection e2 with e2 e3
    rw [e2, e1, List.take_left, wh_self s h0]
  · rw [if_neg hl] at e
    injection e with e1 e2
    injection e2 with e2 e3
    cases e3
/-- THE LAW OF PLAIN COMMENTS. -/
theorem dcl_comment (s more : List UInt8) (h0 : 0 ∉ s) (h1 : Lib.index s [45, 45, 62] = -1) (h2 : Lib.index s [45, 45, 33, 62] = -1) (h3 : Lib.hasSuffix s [45] = false) (h4 : Lib.hasSuffix s [45, 45, 33] = false)
    (h5 : Lib.hasPrefix s [62] = false) (h6 : Lib.hasPrefix s [45, 62] = false) :
    dcl false (45 :: 45 :: (s ++ 45 :: 45 :: 62 :: more)) = ({ kind := 4, text := s }, s.length + 5, true) := by
  unfold dcl
  rw [if_pos (by simp [Lib.hasPrefix, List.isPrefixOf])]
  simp only [List.drop_succ_cons, List.drop_zero]
  rw [cm_plain s more h0 h1 h2 h3 h4 h5 h6]
  dsimp only
  congr 2
  omega

theorem tw_all (p : UInt8 → Bool) (l r : List UInt8) (x : UInt8) (h : ∀ c ∈ l, p c = true) (hx : p x = false) : (l ++ x :: r).takeWhile p = l ∧ (l ++ x :: r).dropWhile p = x :: r := by
  induction l with
  | nil => simp [hx]
  | cons c l ih =>
    have hc := h c (List.mem_cons_self ..)
    have := ih (fun d hd => h d (List.mem_cons_of_mem _ hd))
    rw [List.cons_append, List.takeWhile_cons_of_pos hc, List.dropWhile_cons_of_pos hc, this.1, this.2]
    exact ⟨rfl, rfl⟩
theorem lw_self (l : List UInt8) (h : ∀ c ∈ l, 97 ≤ c.toNat) : lw l = l := by
  induction l with
  | nil => rfl
  | cons c l ih =>
    rw [lw_cons, ih (fun d hd => h d (List.mem_cons_of_mem _ hd))]
    have := h c (List.mem_cons_self ..)
    unfold lwB
    rw [if_neg (by omega)]
theorem inm_letter (c : UInt8) (h0 : 97 ≤ c.toNat) (h1 : c.toNat ≤ 122) : inm c = true ∧ bsp c = false ∧ c ≠ 62 ∧ c ≠ 0 := by
  have e62 : c ≠ 62 := by rintro rfl; revert h0; decide
  have e0 : c ≠ 0 := by rintro rfl; revert h0; decide
  have eb : bsp c = false := by unfold bsp; simp; omega
  refine ⟨by simp [inm, e62, eb], eb, e62, e0⟩
/-- THE LAW OF PLAIN DOCTYPES. -/
theorem dcl_doctype (name pub sys : List UInt8) (hn0 : name ≠ []) (hn : ∀ c ∈ name, 97 ≤ c.toNat ∧ c.toNat ≤ 122) (hp : ∀ c ∈ pub, c ≠ 0 ∧ c ≠ 34 ∧ c ≠ 62) (hs : ∀ c ∈ sys, c ≠ 0 ∧ c ≠ 34 ∧ c ≠ 62) :
    dcl false ([68, 111, 99, 84, 121, 112, 101, 32] ++ name ++ [32, 80, 85, 66, 76, 73, 67, 32, 34] ++ pub ++ [34, 32, 34] ++ sys ++ [34, 62]) =
      ({ kind := 5, name := name, pub := pub, sys := sys, hp := true, hs := true }, name.length + pub.length + sys.length + 22, true) := by
  have E : [68, 111, 99, 84, 121, 112, 101, 32] ++ name ++ [32, 80, 85, 66, 76, 73, 67, 32, 34] ++ pub ++ [34, 32, 34] ++ sys ++ [34, 62] =
      68 :: 111 :: 99 :: 84 :: 121 :: 112 :: 101 :: 32 :: (name ++ 32 :: 80 :: 85 :: 66 :: 76 :: 73 :: 67 :: 32 :: 34 :: (pub ++ 34 :: 32 :: 34 :: (sys ++ [34, 62]))) := by simp
  have wn : wh (lw name) = name := by rw [lw_self name (fun c hc => (hn c hc).1), wh_self name (fun h => (inm_letter 0 (hn 0 h).1 (hn 0 h).2).2.2.2 rfl)]
  have wp : wh pub = pub := wh_self pub (fun h => (hp 0 h).1 rfl)
  have ws : wh sys = sys := wh_self sys (fun h => (hs 0 h).1 rfl)
  have tn := fun r => tw_all inm name r 32 (fun c hc => (inm_letter c (hn c hc).1 (hn c hc).2).1) (by decide)
  have tp := fun r => tw_all (fun c => !iq 34 c) pub r 34 (fun c hc => by simp [iq, (hp c hc).2.1, (hp c hc).2.2]) (by decide)
  have ts := fun r => tw_all (fun c => !iq 34 c) sys r 34 (fun c hc => by simp [iq, (hs c hc).2.1, (hs c hc).2.2]) (by decide)
  have hd : dt (32 :: (name ++ 32 :: 80 :: 85 :: 66 :: 76 :: 73 :: 67 :: 32 :: 34 :: (pub ++ 34 :: 32 :: 34 :: (sys ++ [34, 62])))) = ({ kind := 5, name := name, pub := pub, sys := sys, hp := true, hs := true }, [], true) := by
    unfold dt
    rw [db_pos 32 _ (by decide)]
    obtain ⟨c, l, rfl⟩ : ∃ c l, name = c :: l := by
      cases name with
      | nil => exact absurd rfl hn0
      | cons c l => exact ⟨c, l, rfl⟩
    have hc := inm_letter c (hn c (List.mem_cons_self ..)).1 (hn c (List.mem_cons_self ..)).2
    have e1 : ∀ r, db ((c :: l) ++ r) = (c :: l) ++ r := fun r => by rw [List.cons_append]; exact db_neg _ _ (by simp [hc.2.1])
    rw [e1]
    dsimp only
    rw [if_neg (by simp [eb, hc.2.2.1]), (tn _).1, (tn _).2, wn, db_pos 32 _ (by decide), db_neg 80 _ (by decide)]
    unfold dtA
    rw [if_neg (by simp [eb])]
    rw [if_pos (by simp [wd, wPub, lw, lwB])]
    simp only [List.drop_succ_cons, List.drop_zero]
    rw [db_pos 32 _ (by decide), db_neg 34 _ (by decide), dtP, if_pos (by decide)]
    dsimp only
    rw [(tp _).1, (tp _).2, wp]
    dsimp only
    rw [if_pos rfl, db_pos 32 _ (by decide), db_neg 34 _ (by decide), if_neg (by simp [eb]), dtS, if_pos (by decide)]
    dsimp only
    rw [(ts _).1, (ts _).2, ws]
    dsimp only
    rw [if_pos rfl, db_neg 62 _ (by decide)]
    dsimp only
    rw [rst_hit]
  rw [E]
  unfold dcl
  rw [if_neg (by simp [Lib.hasPrefix, List.isPrefixOf]), if_pos (by simp [wd, wDoc, lw, lwB])]
  simp only [List.drop_succ_cons, List.drop_zero]
  rw [hd]
  dsimp only
  congr 2
  simp; omega
end Go.Proofs.YtileclmmobkcaaaDoor
