/-
  Plain facts: what the document's answer for layer 1 reckons: how many bytes a code point has, between which code points a beginning lies, whether bytes begin a code point's. No program in sight, no condition.
-/
import Derived.Test.YteffnlelmcbgmaaDoorRnt
set_option linter.unusedVariables false
namespace Go.Proofs.YteffnlelmcbgmaaDoor
open Go.Lib

/-- How many bytes a code point that begins so would have; 0: none does. -/
def lg (c : Nat) : Nat := if c < 128 then 1 else if 194 ≤ c ∧ c < 224 then 2 else if 224 ≤ c ∧ c < 240 then 3 else if 240 ≤ c ∧ c < 245 then 4 else 0
theorem lg_le (c : Nat) : lg c ≤ 4 := by unfold lg; (repeat' split) <;> omega
/-- What stands for the first byte's mark. -/
def mk0 (n : Nat) : Int := if n = 2 then 192 else if n = 3 then 224 else 240
def bx (b : List UInt8) (n i : Nat) : Int × Int :=
  if i = 0 then (((b.getD 0 0).toNat : Int) - mk0 n, ((b.getD 0 0).toNat : Int) - mk0 n)
  else if i < b.length then (((b.getD i 0).toNat : Int) - 128, ((b.getD i 0).toNat : Int) - 128) else (0, 63)
/-- The least and the greatest code point whose bytes begin so. -/
def bnd (b : List UInt8) (n : Nat) : Nat → Int × Int
  | 0 => (0, 0)
  | i + 1 => ((bnd b n i).1 * 64 + (bx b n i).1, (bnd b n i).2 * 64 + (bx b n i).2)
theorem bx_le (b : List UInt8) (n i : Nat) : -240 ≤ (bx b n i).1 ∧ (bx b n i).1 ≤ 255 ∧ -240 ≤ (bx b n i).2 ∧ (bx b n i).2 ≤ 255 := by
  have h0 := (b.getD 0 0).toNat_lt
  have h1 := (b.getD i 0).toNat_lt
  unfold bx mk0
  (repeat' split) <;> simp only [] <;> omega
theorem bnd_le (b : List UInt8) (n i : Nat) (hi : i ≤ 4) : -8589934592 ≤ (bnd b n i).1 ∧ (bnd b n i).1 ≤ 8589934592 ∧ -8589934592 ≤ (bnd b n i).2 ∧ (bnd b n i).2 ≤ 8589934592 := by
  have h0 := bx_le b n 0
  have h1 := bx_le b n 1
  have h2 := bx_le b n 2
  have h3 := bx_le b n 3
  match i, hi with
  | 0, _ => simp [bnd]
  | 1, _ => simp only [bnd]; omega
  | 2, _ => simp only [bnd]; omega
  | 3, _ => simp only [bnd]; omega
  | 4, _ => simp only [bnd]; omega

/-- Do some code point's bytes begin so? As the document says it. -/
def bgs (b : List UInt8) : Bool :=
  let n := lg (b.getD 0 0).toNat
  if n = 0 ∨ n < b.length then false
  else if ((List.range b.length).drop 1).any (fun i => decide ((b.getD i 0).toNat < 128 ∨ 191 < (b.getD i 0).toNat)) then false
  else if n = 1 then true
  else
    let low := max (bnd b n n).1 (if n = 2 then 128 else if n = 3 then 2048 else 65536)
    let high := min (bnd b n n).2 (if n = 2 then 2047 else if n = 3 then 65535 else 1114111)
    if n = 3 ∧ 55296 ≤ low ∧ high ≤ 57343 then false else decide (low ≤ high)
end Go.Proofs.YteffnlelmcbgmaaDoor
