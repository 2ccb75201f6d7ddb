/-
  Plain laws on pieces of bytes: a piece that is a code point's is that code point's bytes; code points' bytes are pieces. No program in sight, no condition.
-/
import Derived.Test.YteffnlelmcbgmaaDoorTxd
import Derived.Lib.MapLaws
import Derived.Lib.ValidLaws
set_option linter.unusedVariables false
namespace Go.Proofs.YteffnlelmcbgmaaDoor
open Go.Lib

/-- 'pc' over numbers. -/
def pcN (n b0 b1 b2 b3 : Nat) : Nat × Bool :=
  if b0 < 128 then (1, true) else if b0 < 194 then (1, false)
  else if b0 < 224 then (if 1 < n ∧ 128 ≤ b1 ∧ b1 ≤ 191 then (2, true) else (1, false))
  else if b0 < 240 then (if 1 < n ∧ lof b0 ≤ b1 ∧ b1 ≤ hif b0 then (if 2 < n ∧ 128 ≤ b2 ∧ b2 ≤ 191 then (3, true) else (2, false)) else (1, false))
  else if b0 ≤ 244 then (if 1 < n ∧ lof b0 ≤ b1 ∧ b1 ≤ hif b0 then (if 2 < n ∧ 128 ≤ b2 ∧ b2 ≤ 191 then (if 3 < n ∧ 128 ≤ b3 ∧ b3 ≤ 191 then (4, true) else (3, false)) else (2, false)) else (1, false))
  else (1, false)

theorem pcg1 (lo hi n : Nat) (r : List UInt8) : pcg 1 lo hi r n = if 0 < r.length ∧ lo ≤ (r.getD 0 0).toNat ∧ (r.getD 0 0).toNat ≤ hi then (n + 1, true) else (n, false) := by
  match r with
  | [] => simp [pcg]
  | x :: r => simp [pcg]
theorem pcgS (k lo hi n : Nat) (r : List UInt8) : pcg (k + 1) lo hi r n = if 0 < r.length ∧ lo ≤ (r.getD 0 0).toNat ∧ (r.getD 0 0).toNat ≤ hi then pcg k 128 191 (r.drop 1) (n + 1) else (n, false) := by
  match r with
  | [] => simp [pcg]
  | x :: r => simp [pcg]

theorem pc_N (l : List UInt8) (h : l ≠ []) : pc l = pcN l.length (l.getD 0 0).toNat (l.getD 1 0).toNat (l.getD 2 0).toNat (l.getD 3 0).toNat := by
  match l, h with
  | c :: r, _ =>
    have e : pc (c :: r) = if okf c.toNat then pcg (nd c.toNat) (lof c.toNat) (hif c.toNat) r 1 else (1, false) := rfl
    rw [e]
    have g0 : (c :: r).getD 0 0 = c := rfl
    have g1 : (c :: r).getD 1 0 = r.getD 0 0 := rfl
    have g2 : (c :: r).getD 2 0 = (r.drop 1).getD 0 0 := by simp [List.getD]
    have g3 : (c :: r).getD 3 0 = (r.drop 2).getD 0 0 := by simp [List.getD]
    rw [g0, g1, g2, g3]
    have hl1 : (c :: r).length = r.length + 1 := rfl
    have hl2 : (r.drop 1).length = r.length - 1 := by simp
    have hl3 : (r.drop 2).length = r.length - 2 := by simp
    rw [hl1]
    generalize c.toNat = b0
    unfold pcN okf
    by_cases c0 : b0 < 128
    · have : nd b0 = 0 := by unfold nd; rw [if_pos (by omega)]
      rw [if_pos c0, this]; simp [pcg, c0]
    rw [if_neg c0]
    by_cases c1 : b0 < 194
    · rw [if_pos c1, if_neg (by simp; omega)]
    rw [if_neg c1]
    by_cases c2 : b0 < 224
    · have h1 : nd b0 = 1 := by unfold nd; rw [if_neg c1, if_pos c2]
      have h2 : lof b0 = 128 := by unfold lof; rw [if_neg (by omega), if_neg (by omega)]
      have h3 : hif b0 = 191 := by unfold hif; rw [if_neg (by omega), if_neg (by omega)]
      rw [if_pos c2, if_pos (by simp; omega), h1, h2, h3, pcg1]
      simp only [Nat.lt_add_left_iff_pos]
    rw [if_neg c2]
    by_cases c3 : b0 < 240
    · have h1 : nd b0 = 2 := by unfold nd; rw [if_neg c1, if_neg c2, if_pos c3]
      rw [if_pos c3, if_pos (by simp; omega), h1, pcgS, pcg1, hl2]
      simp only [Nat.lt_add_left_iff_pos, show (0 < r.length - 1) = (2 < r.length + 1) from propext (by omega)]
    rw [if_neg c3]
    by_cases c4 : b0 ≤ 244
    · have h1 : nd b0 = 3 := by unfold nd; rw [if_neg c1, if_neg c2, if_neg c3, if_pos c4]
      rw [if_pos c4, if_pos (by simp; omega), h1, pcgS, pcgS, pcg1, List.drop_drop, hl2, hl3]
      simp only [Nat.lt_add_left_iff_pos, show (0 < r.length - 1) = (2 < r.length + 1) from propext (by omega), show (0 < r.length - 2) = (3 < r.length + 1) from propext (by omega)]
    · rw [if_neg c4, if_neg (by simp; omega)]

set_option maxHeartbeats 4000000 in
theorem pcN_no (n b0 b1 b2 b3 : Nat) (h0 : b0 < 256) (h1 : b1 < 256) (h2 : b2 < 256) (h3 : b3 < 256) (h : (pcN n b0 b1 b2 b3).2 = false) : decodeN n b0 b1 b2 b3 = (65533, 1) := by
  unfold pcN lof hif at h
  rcases decodeN_shape n b0 b1 b2 b3 with ⟨c, e⟩ | ⟨c1, c2, c3, cv, e⟩ | ⟨c1, c2, c3, c4, cv, cs, e⟩ | ⟨c1, c2, c3, c4, c5, cv, cw, e⟩ | e
  · rw [if_pos c] at h; cases h
  · exfalso
    rw [if_neg (by omega), if_neg (by omega), if_pos (by omega), if_pos (by omega)] at h; cases h
  · exfalso
    rw [if_neg (by omega), if_neg (by omega), if_neg (by omega), if_pos (by omega), if_pos (by (repeat' split) <;> omega), if_pos (by omega)] at h; cases h
  · exfalso
    rw [if_neg (by omega), if_neg (by omega), if_neg (by omega), if_neg (by omega), if_pos (by omega), if_pos (by (repeat' split) <;> omega), if_pos (by omega), if_pos (by omega)] at h; cases h
  · exact e
/-- A code point. -/
def Sc (r : Int) : Prop := 0 ≤ r ∧ r ≤ 1114111 ∧ ¬ (55296 ≤ r ∧ r ≤ 57343)
set_option maxHeartbeats 4000000 in
theorem pcN_yes (n b0 b1 b2 b3 : Nat) (h0 : b0 < 256) (h1 : b1 < 256) (h2 : b2 < 256) (h3 : b3 < 256) (h : (pcN n b0 b1 b2 b3).2 = true) : decodeN n b0 b1 b2 b3 ≠ (65533, 1) ∧ (decodeN n b0 b1 b2 b3).2 = (pcN n b0 b1 b2 b3).1 ∧ Sc (decodeN n b0 b1 b2 b3).1 := by
  unfold pcN at h ⊢
  unfold decodeN Sc
  by_cases c0 : b0 < 128
  · rw [if_pos c0, if_pos c0]; refine ⟨fun e => ?_, rfl, ?_⟩
    · have := congrArg Prod.fst e; simp at this; omega
    · dsimp only; omega
  rw [if_neg c0] at h ⊢
  by_cases c1 : b0 < 194
  · rw [if_pos c1] at h; cases h
  rw [if_neg c1] at h ⊢
  by_cases c2 : b0 < 224
  · rw [if_pos c2] at h ⊢
    split at h
    · rename_i c
      rw [if_neg c0, if_pos c, if_pos (by omega), if_pos (by omega)]
      refine ⟨fun e => ?_, rfl, ?_⟩
      · have := congrArg Prod.snd e; simp at this
      · dsimp only; omega
    · cases h
  rw [if_neg c2] at h ⊢
  by_cases c3 : b0 < 240
  · rw [if_pos c3] at h ⊢
    split at h
    · rename_i c
      rw [if_pos c]
      split at h
      · rename_i d
        have hx : (2048 ≤ b0 % 16 * 4096 + b1 % 64 * 64 + b2 % 64 ∧ (b0 % 16 * 4096 + b1 % 64 * 64 + b2 % 64 < 55296 ∨ (57344 ≤ b0 % 16 * 4096 + b1 % 64 * 64 + b2 % 64 ∧ b0 % 16 * 4096 + b1 % 64 * 64 + b2 % 64 ≤ 1114111))) ∧ b1 / 64 = 2 := by
          obtain ⟨_, c4, c5⟩ := c
          unfold lof at c4; unfold hif at c5
          split at c4 <;> split at c5 <;> (try split at c4) <;> (try split at c5) <;> omega
        rw [if_neg c0, if_pos d, if_neg (by omega), if_pos (by omega), if_pos (by omega)]
        refine ⟨fun e => ?_, rfl, ?_⟩
        · have := congrArg Prod.snd e; simp at this
        · dsimp only; omega
      · cases h
    · cases h
  rw [if_neg c3] at h ⊢
  by_cases c4 : b0 ≤ 244
  · rw [if_pos c4] at h ⊢
    split at h
    · rename_i c
      rw [if_pos c]
      split at h
      · rename_i d
        rw [if_pos d]
        split at h
        · rename_i f
          have hx : (65536 ≤ b0 % 8 * 262144 + b1 % 64 * 4096 + b2 % 64 * 64 + b3 % 64 ∧ b0 % 8 * 262144 + b1 % 64 * 4096 + b2 % 64 * 64 + b3 % 64 ≤ 1114111) ∧ b1 / 64 = 2 := by
            obtain ⟨_, c4, c5⟩ := c
            unfold lof at c4; unfold hif at c5
            split at c4 <;> split at c5 <;> (try split at c4) <;> (try split at c5) <;> omega
          rw [if_neg c0, if_pos f, if_neg (by omega), if_neg (by omega), if_pos (by omega), if_pos (by omega)]
          refine ⟨fun e => ?_, rfl, ?_⟩
          · have := congrArg Prod.snd e; simp at this
          · dsimp only; omega
        · cases h
      · cases h
    · cases h
  · rw [if_neg c4] at h; cases h
end Go.Proofs.YteffnlelmcbgmaaDoor
