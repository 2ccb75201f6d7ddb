/-
  Plain facts: bytes that begin a piece which could go on. No program in sight, no condition.
-/
import Derived.Test.YteffnlelmcbgmaaDoorTxm
namespace Go.Proofs.YteffnlelmcbgmaaDoor

/-- All that stands there goes on a piece of which so many bytes must still come, and more must come. -/
def hang : Nat → Nat → Nat → List UInt8 → Bool
  | 0, _, _, _ => false
  | _ + 1, _, _, [] => true
  | k + 1, lo, hi, x :: r => decide (lo ≤ x.toNat ∧ x.toNat ≤ hi) && hang k 128 191 r
def hangs : List UInt8 → Bool
  | [] => false
  | c :: r => okf c.toNat && hang (nd c.toNat) (lof c.toNat) (hif c.toNat) r
/-- Where the last piece begins, if it could go on. -/
def waitsF (l : List UInt8) : Nat → Nat
  | 0 => l.length
  | n + 1 => if hangs (l.drop (l.length - (n + 1))) then l.length - (n + 1) else waitsF l n
def waitsP (l : List UInt8) : Nat := waitsF l (min 3 l.length)
theorem waitsF_le (l : List UInt8) (n : Nat) : waitsF l n ≤ l.length := by
  induction n with
  | zero => exact Nat.le_refl _
  | succ n ih => unfold waitsF; split <;> omega
theorem waitsP_le (l : List UInt8) : waitsP l ≤ l.length := waitsF_le l _
end Go.Proofs.YteffnlelmcbgmaaDoor
