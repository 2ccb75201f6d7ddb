/-
  Plain laws: the document's pieces are the pieces. No program in sight, no condition.
-/
import Derived.Test.YteffnlelmcbgmaaDoorRfb
set_option linter.unusedVariables false
namespace Go.Proofs.YteffnlelmcbgmaaDoor
open Go.Lib

theorem lg1 (c : Nat) (h : c < 128) : lg c = 1 := by unfold lg; rw [if_pos h]
theorem lg0 (c : Nat) (h : (128 ≤ c ∧ c < 194) ∨ 245 ≤ c) : lg c = 0 := by unfold lg; rw [if_neg (by omega), if_neg (by omega), if_neg (by omega), if_neg (by omega)]
theorem lg2 (c : Nat) (h : 194 ≤ c ∧ c < 224) : lg c = 2 := by unfold lg; rw [if_neg (by omega), if_pos (by omega)]
theorem lg3 (c : Nat) (h : 224 ≤ c ∧ c < 240) : lg c = 3 := by unfold lg; rw [if_neg (by omega), if_neg (by omega), if_pos (by omega)]
theorem lg4 (c : Nat) (h : 240 ≤ c ∧ c < 245) : lg c = 4 := by unfold lg; rw [if_neg (by omega), if_neg (by omega), if_neg (by omega), if_pos (by omega)]

theorem cb1 (a : UInt8) : contB [a] = false := rfl
theorem cb2 (a b : UInt8) : contB [a, b] = decide (b.toNat < 128 ∨ 191 < b.toNat) := by simp [contB, List.range, List.range.loop]
theorem cb3 (a b c : UInt8) : contB [a, b, c] = (decide (b.toNat < 128 ∨ 191 < b.toNat) || decide (c.toNat < 128 ∨ 191 < c.toNat)) := by simp [contB, List.range, List.range.loop]
theorem cb4 (a b c d : UInt8) : contB [a, b, c, d] = (decide (b.toNat < 128 ∨ 191 < b.toNat) || (decide (c.toNat < 128 ∨ 191 < c.toNat) || decide (d.toNat < 128 ∨ 191 < d.toNat))) := by simp [contB, List.range, List.range.loop]

theorem lo_ge' (c : Nat) : 128 ≤ lof c ∧ hif c ≤ 191 := by unfold lof hif; (repeat' split) <;> omega

set_option maxHeartbeats 2000000 in
theorem bg1 (a : UInt8) : bgs [a] = decide (a.toNat < 128 ∨ (194 ≤ a.toNat ∧ a.toNat ≤ 244)) := by
  have ka := a.toNat_lt
  have hlo : 128 ≤ lof a.toNat ∧ hif a.toNat ≤ 191 := lo_ge' a.toNat
  by_cases c0 : (128 ≤ a.toNat ∧ a.toNat < 194) ∨ 245 ≤ a.toNat
  · rw [bgs_zero [a] 0 (lg0 a.toNat c0) (.inl rfl)]; symm; rw [decide_eq_false_iff_not]; omega
  by_cases c1 : a.toNat < 128
  · have hcb : contB [a] = false := rfl
    rw [bgs_one [a] (lg1 a.toNat c1) (by simp) hcb]; symm; rw [decide_eq_true_iff]; omega
  by_cases c2 : 194 ≤ a.toNat ∧ a.toNat < 224
  · have hcb : contB [a] = false := rfl
    rw [bgs_some [a] 2 (lg2 a.toNat c2) (by omega) (by simp) hcb (by omega) 128 2047 rfl rfl]
    have e : bnd [a] 2 2 = ((((a.toNat : Int) - 192) * 64), (((a.toNat : Int) - 192) * 64 + 63)) := by simp [bnd, bx, mk0]
    rw [e]
    dsimp only
    rw [if_neg (by omega)]
    rw [decide_eq_decide]
    (try unfold lof hif)
    (repeat' split) <;> omega
  by_cases c3 : 224 ≤ a.toNat ∧ a.toNat < 240
  · have hcb : contB [a] = false := rfl
    rw [bgs_some [a] 3 (lg3 a.toNat c3) (by omega) (by simp) hcb (by omega) 2048 65535 rfl rfl]
    have e : bnd [a] 3 3 = (((((a.toNat : Int) - 224) * 64) * 64), ((((a.toNat : Int) - 224) * 64 + 63) * 64 + 63)) := by simp [bnd, bx, mk0]
    rw [e]
    dsimp only
    by_cases cs : (3 : Nat) = 3 ∧ 55296 ≤ max (((((a.toNat : Int) - 224) * 64) * 64)) 2048 ∧ min (((((a.toNat : Int) - 224) * 64 + 63) * 64 + 63)) 65535 ≤ 57343
    · rw [if_pos cs]; symm; rw [decide_eq_false_iff_not]; (try unfold lof hif); (repeat' split) <;> omega
    rw [if_neg cs]
    rw [decide_eq_decide]
    (try unfold lof hif)
    (repeat' split) <;> omega
  by_cases c4 : 240 ≤ a.toNat ∧ a.toNat < 245
  · have hcb : contB [a] = false := rfl
    rw [bgs_some [a] 4 (lg4 a.toNat c4) (by omega) (by simp) hcb (by omega) 65536 1114111 rfl rfl]
    have e : bnd [a] 4 4 = ((((((a.toNat : Int) - 240) * 64) * 64) * 64), (((((a.toNat : Int) - 240) * 64 + 63) * 64 + 63) * 64 + 63)) := by simp [bnd, bx, mk0]
    rw [e]
    dsimp only
    rw [if_neg (by omega)]
    rw [decide_eq_decide]
    (try unfold lof hif)
    (repeat' split) <;> omega
  exfalso; omega

set_option maxHeartbeats 2000000 in
theorem bg2 (a b : UInt8) : bgs [a, b] = decide (194 ≤ a.toNat ∧ a.toNat ≤ 244 ∧ lof a.toNat ≤ b.toNat ∧ b.toNat ≤ hif a.toNat) := by
  have ka := a.toNat_lt
  have kb := b.toNat_lt
  have hlo : 128 ≤ lof a.toNat ∧ hif a.toNat ≤ 191 := lo_ge' a.toNat
  by_cases c0 : (128 ≤ a.toNat ∧ a.toNat < 194) ∨ 245 ≤ a.toNat
  · rw [bgs_zero [a, b] 0 (lg0 a.toNat c0) (.inl rfl)]; symm; rw [decide_eq_false_iff_not]; omega
  by_cases c1 : a.toNat < 128
  · rw [bgs_zero [a, b] 1 (lg1 a.toNat c1) (.inr (by simp))]; symm; rw [decide_eq_false_iff_not]; omega
  by_cases c2 : 194 ≤ a.toNat ∧ a.toNat < 224
  · by_cases cb : (b.toNat < 128 ∨ 191 < b.toNat)
    · rw [bgs_bad [a, b] 2 (lg2 a.toNat c2) (by rw [cb2]; simp; omega)]; symm; rw [decide_eq_false_iff_not]; omega
    have hcb : contB [a, b] = false := by rw [cb2]; simp; omega
    rw [bgs_some [a, b] 2 (lg2 a.toNat c2) (by omega) (by simp) hcb (by omega) 128 2047 rfl rfl]
    have e : bnd [a, b] 2 2 = ((((a.toNat : Int) - 192) * 64 + ((b.toNat : Int) - 128)), (((a.toNat : Int) - 192) * 64 + ((b.toNat : Int) - 128))) := by simp [bnd, bx, mk0]
    rw [e]
    dsimp only
    rw [if_neg (by omega)]
    rw [decide_eq_decide]
    (try unfold lof hif)
    (repeat' split) <;> omega
  by_cases c3 : 224 ≤ a.toNat ∧ a.toNat < 240
  · by_cases cb : (b.toNat < 128 ∨ 191 < b.toNat)
    · rw [bgs_bad [a, b] 3 (lg3 a.toNat c3) (by rw [cb2]; simp; omega)]; symm; rw [decide_eq_false_iff_not]; omega
    have hcb : contB [a, b] = false := by rw [cb2]; simp; omega
    rw [bgs_some [a, b] 3 (lg3 a.toNat c3) (by omega) (by simp) hcb (by omega) 2048 65535 rfl rfl]
    have e : bnd [a, b] 3 3 = (((((a.toNat : Int) - 224) * 64 + ((b.toNat : Int) - 128)) * 64), ((((a.toNat : Int) - 224) * 64 + ((b.toNat : Int) - 128)) * 64 + 63)) := by simp [bnd, bx, mk0]
    rw [e]
    dsimp only
    by_cases cs : (3 : Nat) = 3 ∧ 55296 ≤ max (((((a.toNat : Int) - 224) * 64 + ((b.toNat : Int) - 128)) * 64)) 2048 ∧ min (((((a.toNat : Int) - 224) * 64 + ((b.toNat : Int) - 128)) * 64 + 63)) 65535 ≤ 57343
    · rw [if_pos cs]; symm; rw [decide_eq_false_iff_not]; (try unfold lof hif); (repeat' split) <;> omega
    rw [if_neg cs]
    rw [decide_eq_decide]
    (try unfold lof hif)
    (repeat' split) <;> omega
  by_cases c4 : 240 ≤ a.toNat ∧ a.toNat < 245
  · by_cases cb : (b.toNat < 128 ∨ 191 < b.toNat)
    · rw [bgs_bad [a, b] 4 (lg4 a.toNat c4) (by rw [cb2]; simp; omega)]; symm; rw [decide_eq_false_iff_not]; omega
    have hcb : contB [a, b] = false := by rw [cb2]; simp; omega
    rw [bgs_some [a, b] 4 (lg4 a.toNat c4) (by omega) (by simp) hcb (by omega) 65536 1114111 rfl rfl]
    have e : bnd [a, b] 4 4 = ((((((a.toNat : Int) - 240) * 64 + ((b.toNat : Int) - 128)) * 64) * 64), (((((a.toNat : Int) - 240) * 64 + ((b.toNat : Int) - 128)) * 64 + 63) * 64 + 63)) := by simp [bnd, bx, mk0]
    rw [e]
    dsimp only
    rw [if_neg (by omega)]
    rw [decide_eq_decide]
    (try unfold lof hif)
    (repeat' split) <;> omega
  exfalso; omega

set_option maxHeartbeats 2000000 in
theorem bg3 (a b c : UInt8) : bgs [a, b, c] = decide (224 ≤ a.toNat ∧ a.toNat ≤ 244 ∧ lof a.toNat ≤ b.toNat ∧ b.toNat ≤ hif a.toNat ∧ 128 ≤ c.toNat ∧ c.toNat ≤ 191) := by
  have ka := a.toNat_lt
  have kb := b.toNat_lt
  have kc := c.toNat_lt
  have hlo : 128 ≤ lof a.toNat ∧ hif a.toNat ≤ 191 := lo_ge' a.toNat
  by_cases c0 : (128 ≤ a.toNat ∧ a.toNat < 194) ∨ 245 ≤ a.toNat
  · rw [bgs_zero [a, b, c] 0 (lg0 a.toNat c0) (.inl rfl)]; symm; rw [decide_eq_false_iff_not]; omega
  by_cases c1 : a.toNat < 128
  · rw [bgs_zero [a, b, c] 1 (lg1 a.toNat c1) (.inr (by simp))]; symm; rw [decide_eq_false_iff_not]; omega
  by_cases c2 : 194 ≤ a.toNat ∧ a.toNat < 224
  · rw [bgs_zero [a, b, c] 2 (lg2 a.toNat c2) (.inr (by simp))]; symm; rw [decide_eq_false_iff_not]; omega
  by_cases c3 : 224 ≤ a.toNat ∧ a.toNat < 240
  · by_cases cb : (b.toNat < 128 ∨ 191 < b.toNat) ∨ (c.toNat < 128 ∨ 191 < c.toNat)
    · rw [bgs_bad [a, b, c] 3 (lg3 a.toNat c3) (by rw [cb3]; simp; omega)]; symm; rw [decide_eq_false_iff_not]; omega
    have hcb : contB [a, b, c] = false := by rw [cb3]; simp; omega
    rw [bgs_some [a, b, c] 3 (lg3 a.toNat c3) (by omega) (by simp) hcb (by omega) 2048 65535 rfl rfl]
    have e : bnd [a, b, c] 3 3 = (((((a.toNat : Int) - 224) * 64 + ((b.toNat : Int) - 128)) * 64 + ((c.toNat : Int) - 128)), ((((a.toNat : Int) - 224) * 64 + ((b.toNat : Int) - 128)) * 64 + ((c.toNat : Int) - 128))) := by simp [bnd, bx, mk0]
    rw [e]
    dsimp only
    by_cases cs : (3 : Nat) = 3 ∧ 55296 ≤ max (((((a.toNat : Int) - 224) * 64 + ((b.toNat : Int) - 128)) * 64 + ((c.toNat : Int) - 128))) 2048 ∧ min (((((a.toNat : Int) - 224) * 64 + ((b.toNat : Int) - 128)) * 64 + ((c.toNat : Int) - 128))) 65535 ≤ 57343
    · rw [if_pos cs]; symm; rw [decide_eq_false_iff_not]; (try unfold lof hif); (repeat' split) <;> omega
    rw [if_neg cs]
    rw [decide_eq_decide]
    (try unfold lof hif)
    (repeat' split) <;> omega
  by_cases c4 : 240 ≤ a.toNat ∧ a.toNat < 245
  · by_cases cb : (b.toNat < 128 ∨ 191 < b.toNat) ∨ (c.toNat < 128 ∨ 191 < c.toNat)
    · rw [bgs_bad [a, b, c] 4 (lg4 a.toNat c4) (by rw [cb3]; simp; omega)]; symm; rw [decide_eq_false_iff_not]; omega
    have hcb : contB [a, b, c] = false := by rw [cb3]; simp; omega
    rw [bgs_some [a, b, c] 4 (lg4 a.toNat c4) (by omega) (by simp) hcb (by omega) 65536 1114111 rfl rfl]
    have e : bnd [a, b, c] 4 4 = ((((((a.toNat : Int) - 240) * 64 + ((b.toNat : Int) - 128)) * 64 + ((c.toNat : Int) - 128)) * 64), (((((a.toNat : Int) - 240) * 64 + ((b.toNat : Int) - 128)) * 64 + ((c.toNat : Int) - 128)) * 64 + 63)) := by simp [bnd, bx, mk0]
    rw [e]
    dsimp only
    rw [if_neg (by omega)]
    rw [decide_eq_decide]
    (try unfold lof hif)
    (repeat' split) <;> omega
  exfalso; omega

set_option maxHeartbeats 2000000 in
theorem bg4 (a b c d : UInt8) : bgs [a, b, c, d] = decide (240 ≤ a.toNat ∧ a.toNat ≤ 244 ∧ lof a.toNat ≤ b.toNat ∧ b.toNat ≤ hif a.toNat ∧ 128 ≤ c.toNat ∧ c.toNat ≤ 191 ∧ 128 ≤ d.toNat ∧ d.toNat ≤ 191) := by
  have ka := a.toNat_lt
  have kb := b.toNat_lt
  have kc := c.toNat_lt
  have kd := d.toNat_lt
  have hlo : 128 ≤ lof a.toNat ∧ hif a.toNat ≤ 191 := lo_ge' a.toNat
  by_cases c0 : (128 ≤ a.toNat ∧ a.toNat < 194) ∨ 245 ≤ a.toNat
  · rw [bgs_zero [a, b, c, d] 0 (lg0 a.toNat c0) (.inl rfl)]; symm; rw [decide_eq_false_iff_not]; omega
  by_cases c1 : a.toNat < 128
  · rw [bgs_zero [a, b, c, d] 1 (lg1 a.toNat c1) (.inr (by simp))]; symm; rw [decide_eq_false_iff_not]; omega
  by_cases c2 : 194 ≤ a.toNat ∧ a.toNat < 224
  · rw [bgs_zero [a, b, c, d] 2 (lg2 a.toNat c2) (.inr (by simp))]; symm; rw [decide_eq_false_iff_not]; omega
  by_cases c3 : 224 ≤ a.toNat ∧ a.toNat < 240
  · rw [bgs_zero [a, b, c, d] 3 (lg3 a.toNat c3) (.inr (by simp))]; symm; rw [decide_eq_false_iff_not]; omega
  by_cases c4 : 240 ≤ a.toNat ∧ a.toNat < 245
  · by_cases cb : (b.toNat < 128 ∨ 191 < b.toNat) ∨ (c.toNat < 128 ∨ 191 < c.toNat) ∨ (d.toNat < 128 ∨ 191 < d.toNat)
    · rw [bgs_bad [a, b, c, d] 4 (lg4 a.toNat c4) (by rw [cb4]; simp; omega)]; symm; rw [decide_eq_false_iff_not]; omega
    have hcb : contB [a, b, c, d] = false := by rw [cb4]; simp; omega
    rw [bgs_some [a, b, c, d] 4 (lg4 a.toNat c4) (by omega) (by simp) hcb (by omega) 65536 1114111 rfl rfl]
    have e : bnd [a, b, c, d] 4 4 = ((((((a.toNat : Int) - 240) * 64 + ((b.toNat : Int) - 128)) * 64 + ((c.toNat : Int) - 128)) * 64 + ((d.toNat : Int) - 128)), (((((a.toNat : Int) - 240) * 64 + ((b.toNat : Int) - 128)) * 64 + ((c.toNat : Int) - 128)) * 64 + ((d.toNat : Int) - 128))) := by simp [bnd, bx, mk0]
    rw [e]
    dsimp only
    rw [if_neg (by omega)]
    rw [decide_eq_decide]
    (try unfold lof hif)
    (repeat' split) <;> omega
  exfalso; omega

/-- The greatest number of bytes, up to four, so that each beginning up to it begins a code point's. -/
def most (l : List UInt8) : Nat :=
  if 1 ≤ l.length ∧ bgs (l.take 1) = true then
    (if 2 ≤ l.length ∧ bgs (l.take 2) = true then
      (if 3 ≤ l.length ∧ bgs (l.take 3) = true then
        (if 4 ≤ l.length ∧ bgs (l.take 4) = true then 4 else 3) else 2) else 1) else 0
/-- The document's piece. -/
def refP (l : List UInt8) : Nat × Int × Bool :=
  if most l = 0 then (1, 65533, false) else if most l < lg (l.getD 0 0).toNat then (most l, 65533, false)
  else (most l, if most l = 1 then ((l.getD 0 0).toNat : Int) else (bnd (l.take (most l)) (most l) (most l)).1, true)

theorem most1 (a : UInt8) : most [a] = if a.toNat < 128 ∨ (194 ≤ a.toNat ∧ a.toNat ≤ 244) then 1 else 0 := by
  unfold most
  rw [show ([a] : List UInt8).take 1 = [a] from rfl, bg1]
  simp
theorem most2 (a b : UInt8) : most [a, b] = if a.toNat < 128 ∨ (194 ≤ a.toNat ∧ a.toNat ≤ 244) then (if 194 ≤ a.toNat ∧ a.toNat ≤ 244 ∧ lof a.toNat ≤ b.toNat ∧ b.toNat ≤ hif a.toNat then 2 else 1) else 0 := by
  unfold most
  rw [show ([a, b] : List UInt8).take 1 = [a] from rfl, show ([a, b] : List UInt8).take 2 = [a, b] from rfl, bg1, bg2]
  simp
theorem most3 (a b c : UInt8) : most [a, b, c] = if a.toNat < 128 ∨ (194 ≤ a.toNat ∧ a.toNat ≤ 244) then (if 194 ≤ a.toNat ∧ a.toNat ≤ 244 ∧ lof a.toNat ≤ b.toNat ∧ b.toNat ≤ hif a.toNat then (if 224 ≤ a.toNat ∧ a.toNat ≤ 244 ∧ lof a.toNat ≤ b.toNat ∧ b.toNat ≤ hif a.toNat ∧ 128 ≤ c.toNat ∧ c.toNat ≤ 191 then 3 else 2) else 1) else 0 := by
  unfold most
  rw [show ([a, b, c] : List UInt8).take 1 = [a] from rfl, show ([a, b, c] : List UInt8).take 2 = [a, b] from rfl, show ([a, b, c] : List UInt8).take 3 = [a, b, c] from rfl, bg1, bg2, bg3]
  simp
theorem most4 (a b c d : UInt8) (t : List UInt8) : most (a :: b :: c :: d :: t) = if a.toNat < 128 ∨ (194 ≤ a.toNat ∧ a.toNat ≤ 244) then (if 194 ≤ a.toNat ∧ a.toNat ≤ 244 ∧ lof a.toNat ≤ b.toNat ∧ b.toNat ≤ hif a.toNat then (if 224 ≤ a.toNat ∧ a.toNat ≤ 244 ∧ lof a.toNat ≤ b.toNat ∧ b.toNat ≤ hif a.toNat ∧ 128 ≤ c.toNat ∧ c.toNat ≤ 191 then (if 240 ≤ a.toNat ∧ a.toNat ≤ 244 ∧ lof a.toNat ≤ b.toNat ∧ b.toNat ≤ hif a.toNat ∧ 128 ≤ c.toNat ∧ c.toNat ≤ 191 ∧ 128 ≤ d.toNat ∧ d.toNat ≤ 191 then 4 else 3) else 2) else 1) else 0 := by
  unfold most
  rw [show (a :: b :: c :: d :: t).take 1 = [a] from rfl, show (a :: b :: c :: d :: t).take 2 = [a, b] from rfl, show (a :: b :: c :: d :: t).take 3 = [a, b, c] from rfl, show (a :: b :: c :: d :: t).take 4 = [a, b, c, d] from rfl, bg1, bg2, bg3, bg4]
  simp
end Go.Proofs.YteffnlelmcbgmaaDoor
