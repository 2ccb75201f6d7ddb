/-
  Plain facts: pieces of bytes: how many bytes the piece has that bytes begin with, whether it is a code point's. No program in sight, no condition.
-/
import Derived.Lib.Strings
namespace Go.Proofs.YteffnlelmcbgmaaDoor

/-- How many bytes must still come behind a first byte; whether some piece begins so; the bounds of the next byte. -/
def nd (c : Nat) : Nat := if c < 194 then 0 else if c < 224 then 1 else if c < 240 then 2 else if c ≤ 244 then 3 else 0
def okf (c : Nat) : Bool := decide (c < 128 ∨ (194 ≤ c ∧ c ≤ 244))
def lof (c : Nat) : Nat := if c = 224 then 160 else if c = 240 then 144 else 128
def hif (c : Nat) : Nat := if c = 237 then 159 else if c = 244 then 143 else 191
/-- The piece goes on: so many bytes must still come, within such bounds. -/
def pcg : Nat → Nat → Nat → List UInt8 → Nat → Nat × Bool
  | 0, _, _, _, n => (n, true)
  | _ + 1, _, _, [], n => (n, false)
  | k + 1, lo, hi, x :: r, n => if lo ≤ x.toNat ∧ x.toNat ≤ hi then pcg k 128 191 r (n + 1) else (n, false)
def pc : List UInt8 → Nat × Bool
  | [] => (0, false)
  | c :: r => if okf c.toNat then pcg (nd c.toNat) (lof c.toNat) (hif c.toNat) r 1 else (1, false)

theorem nd_le (c : Nat) : nd c ≤ 3 := by unfold nd; (repeat' split) <;> omega
theorem pcg_range (k lo hi : Nat) (r : List UInt8) (n : Nat) : n ≤ (pcg k lo hi r n).1 ∧ (pcg k lo hi r n).1 ≤ n + r.length ∧ (pcg k lo hi r n).1 ≤ n + k := by
  induction k generalizing lo hi r n with
  | zero => simp [pcg]
  | succ k ih =>
    match r with
    | [] => simp [pcg]
    | x :: r =>
      unfold pcg
      split
      · have := ih 128 191 r (n + 1); simp; omega
      · simp
theorem pc_range (l : List UInt8) (h : l ≠ []) : 1 ≤ (pc l).1 ∧ (pc l).1 ≤ l.length ∧ (pc l).1 ≤ 4 := by
  match l, h with
  | c :: r, _ =>
    have e : pc (c :: r) = if okf c.toNat then pcg (nd c.toNat) (lof c.toNat) (hif c.toNat) r 1 else (1, false) := rfl
    rw [e]
    split
    · have h1 := pcg_range (nd c.toNat) (lof c.toNat) (hif c.toNat) r 1
      have h2 := nd_le c.toNat
      simp only [List.length_cons]
      omega
    · simp
end Go.Proofs.YteffnlelmcbgmaaDoor
