/-
  Plain laws: the document's piece is the piece. No program in sight, no condition.
-/
import Derived.Test.YteffnlelmcbgmaaDoorRfp
set_option linter.unusedVariables false
namespace Go.Proofs.YteffnlelmcbgmaaDoor
open Go.Lib

def mostN (n A B C D : Nat) : Nat :=
  if A < 128 ∨ (194 ≤ A ∧ A ≤ 244) then
    (if 2 ≤ n ∧ 194 ≤ A ∧ A ≤ 244 ∧ lof A ≤ B ∧ B ≤ hif A then
      (if 3 ≤ n ∧ 224 ≤ A ∧ A ≤ 244 ∧ lof A ≤ B ∧ B ≤ hif A ∧ 128 ≤ C ∧ C ≤ 191 then
        (if 4 ≤ n ∧ 240 ≤ A ∧ A ≤ 244 ∧ lof A ≤ B ∧ B ≤ hif A ∧ 128 ≤ C ∧ C ≤ 191 ∧ 128 ≤ D ∧ D ≤ 191 then 4 else 3) else 2) else 1) else 0
theorem most_N (l : List UInt8) (h : l ≠ []) : most l = mostN l.length (l.getD 0 0).toNat (l.getD 1 0).toNat (l.getD 2 0).toNat (l.getD 3 0).toNat := by
  unfold mostN
  match l, h with
  | [a], _ => rw [most1]; simp
  | [a, b], _ => rw [most2]; simp
  | [a, b, c], _ => rw [most3]; simp
  | a :: b :: c :: d :: t, _ => rw [most4]; simp
theorem take2 (l : List UInt8) (h : 2 ≤ l.length) : l.take 2 = [l.getD 0 0, l.getD 1 0] := takeB l h
theorem bnd2 (a b : UInt8) : (bnd [a, b] 2 2).1 = ((a.toNat : Int) - 192) * 64 + ((b.toNat : Int) - 128) := by simp [bnd, bx, mk0]
theorem bnd3 (a b c : UInt8) : (bnd [a, b, c] 3 3).1 = (((a.toNat : Int) - 224) * 64 + ((b.toNat : Int) - 128)) * 64 + ((c.toNat : Int) - 128) := by simp [bnd, bx, mk0]
theorem bnd4 (a b c d : UInt8) : (bnd [a, b, c, d] 4 4).1 = ((((a.toNat : Int) - 240) * 64 + ((b.toNat : Int) - 128)) * 64 + ((c.toNat : Int) - 128)) * 64 + ((d.toNat : Int) - 128) := by simp [bnd, bx, mk0]
theorem refP_no (l : List UInt8) (h : l ≠ []) (m : Nat) (hm : most l = m) (hp : pc l = (if m = 0 then 1 else m, false)) (hl : m = 0 ∨ m < lg (l.getD 0 0).toNat) : refP l = ((pc l).1, rn l, (pc l).2) := by
  rw [(pc_no l h (by rw [hp])).1, hp]
  unfold refP
  rw [hm]
  by_cases h0 : m = 0
  · rw [if_pos h0, if_pos h0]
  · rw [if_neg h0, if_neg h0, if_pos (by omega)]
theorem refP_yes (l : List UInt8) (h : l ≠ []) (m : Nat) (h0 : m ≠ 0) (hm : most l = m) (hp : pc l = (m, true)) (hl : lg (l.getD 0 0).toNat = m)
    (hv : (if m = 1 then ((l.getD 0 0).toNat : Int) else (bnd (l.take m) m m).1) = ((decodeN l.length (l.getD 0 0).toNat (l.getD 1 0).toNat (l.getD 2 0).toNat (l.getD 3 0).toNat).1 : Int)) : refP l = ((pc l).1, rn l, (pc l).2) := by
  have hr : rn l = ((decodeN l.length (l.getD 0 0).toNat (l.getD 1 0).toNat (l.getD 2 0).toNat (l.getD 3 0).toNat).1 : Int) := by
    unfold rn; rw [hp, if_pos rfl, decodeGo_L l h, decodeL_N]
  rw [hr, hp, ← hv]
  unfold refP
  rw [hm, hl, if_neg h0, if_neg (by omega)]

set_option maxHeartbeats 2000000 in
theorem refP_pc (l : List UInt8) (h : l ≠ []) : refP l = ((pc l).1, rn l, (pc l).2) := by
  have hM := most_N l h
  have hP := pc_N l h
  have hn : 1 ≤ l.length := List.length_pos_iff.2 h
  have k0 := (l.getD 0 0).toNat_lt
  have k1 := (l.getD 1 0).toNat_lt
  have k2 := (l.getD 2 0).toNat_lt
  have k3 := (l.getD 3 0).toNat_lt
  have t2 : 2 ≤ l.length → (bnd (l.take 2) 2 2).1 = (((l.getD 0 0).toNat : Int) - 192) * 64 + (((l.getD 1 0).toNat : Int) - 128) := fun h => by rw [takeB l h, bnd2]
  have t3 : 3 ≤ l.length → (bnd (l.take 3) 3 3).1 = ((((l.getD 0 0).toNat : Int) - 224) * 64 + (((l.getD 1 0).toNat : Int) - 128)) * 64 + (((l.getD 2 0).toNat : Int) - 128) := fun h => by rw [takeC l h, bnd3]
  have t4 : 4 ≤ l.length → (bnd (l.take 4) 4 4).1 = (((((l.getD 0 0).toNat : Int) - 240) * 64 + (((l.getD 1 0).toNat : Int) - 128)) * 64 + (((l.getD 2 0).toNat : Int) - 128)) * 64 + (((l.getD 3 0).toNat : Int) - 128) := fun h => by rw [takeD l h, bnd4]
  have RN := refP_no l h
  have RY := refP_yes l h
  generalize (l.getD 0 0).toNat = A at *
  generalize (l.getD 1 0).toNat = B at *
  generalize (l.getD 2 0).toNat = C at *
  generalize (l.getD 3 0).toNat = D at *
  generalize hnl : l.length = n at *
  have hlo : 128 ≤ lof A ∧ hif A ≤ 191 := lo_ge' A
  have hm2 : A < 224 → lof A = 128 ∧ hif A = 191 := fun h => by unfold lof hif; (repeat' split) <;> omega
  by_cases c0 : (128 ≤ A ∧ A < 194) ∨ 245 ≤ A
  ·
    refine RN 0 ?_ ?_ ?_
    · rw [hM]; unfold mostN; (repeat' split) <;> omega
    · rw [hP]; unfold pcN; (repeat' split) <;> first | rfl | (exfalso; omega)
    · exact .inl rfl
  by_cases c1 : A < 128
  ·
    refine RY 1 (by omega) ?_ ?_ (lg1 A c1) ?_
    · rw [hM]; unfold mostN; (repeat' split) <;> omega
    · rw [hP]; unfold pcN; (repeat' split) <;> first | rfl | (exfalso; omega)
    · rw [if_pos rfl]; unfold decodeN; rw [if_pos (by omega)]
  by_cases g2 : lof A ≤ B ∧ B ≤ hif A ∧ 2 ≤ n
  rotate_left
  ·
    by_cases c2 : A < 224
    ·
      refine RN 1 ?_ ?_ ?_
      · rw [hM]; unfold mostN; (repeat' split) <;> omega
      · rw [hP]; unfold pcN; (repeat' split) <;> first | rfl | (exfalso; omega)
      · rw [lg2 A (by omega)]; omega
    by_cases c3 : A < 240
    ·
      refine RN 1 ?_ ?_ ?_
      · rw [hM]; unfold mostN; (repeat' split) <;> omega
      · rw [hP]; unfold pcN; (repeat' split) <;> first | rfl | (exfalso; omega)
      · rw [lg3 A (by omega)]; omega
    ·
      refine RN 1 ?_ ?_ ?_
      · rw [hM]; unfold mostN; (repeat' split) <;> omega
      · rw [hP]; unfold pcN; (repeat' split) <;> first | rfl | (exfalso; omega)
      · rw [lg4 A (by omega)]; omega
  by_cases c2 : A < 224
  ·
    refine RY 2 (by omega) ?_ ?_ (lg2 A (by omega)) ?_
    · rw [hM]; unfold mostN; (repeat' split) <;> omega
    · rw [hP]; unfold pcN; (repeat' split) <;> first | rfl | (exfalso; omega)
    · rw [if_neg (by omega), t2 (by omega)]; unfold decodeN
      have hb : B / 64 = 2 := by omega
      rw [if_neg (by omega), if_pos (by omega), if_pos (by omega)]
      dsimp only; omega
  by_cases g3 : 128 ≤ C ∧ C ≤ 191 ∧ 3 ≤ n
  rotate_left
  ·
    by_cases c3 : A < 240
    ·
      refine RN 2 ?_ ?_ ?_
      · rw [hM]; unfold mostN; (repeat' split) <;> omega
      · rw [hP]; unfold pcN; (repeat' split) <;> first | rfl | (exfalso; omega)
      · rw [lg3 A (by omega)]; omega
    ·
      refine RN 2 ?_ ?_ ?_
      · rw [hM]; unfold mostN; (repeat' split) <;> omega
      · rw [hP]; unfold pcN; (repeat' split) <;> first | rfl | (exfalso; omega)
      · rw [lg4 A (by omega)]; omega
  by_cases c3 : A < 240
  ·
    refine RY 3 (by omega) ?_ ?_ (lg3 A (by omega)) ?_
    · rw [hM]; unfold mostN; (repeat' split) <;> omega
    · rw [hP]; unfold pcN; (repeat' split) <;> first | rfl | (exfalso; omega)
    · rw [if_neg (by omega), t3 (by omega)]; unfold decodeN
      have hb : B / 64 = 2 := by omega
      unfold lof at g2; unfold hif at g2
      rw [if_neg (by omega), if_neg (by omega), if_pos (by omega), if_pos (by (repeat' split at g2) <;> omega)]
      dsimp only; omega
  by_cases g4 : 128 ≤ D ∧ D ≤ 191 ∧ 4 ≤ n
  rotate_left
  ·
    refine RN 3 ?_ ?_ ?_
    · rw [hM]; unfold mostN; (repeat' split) <;> omega
    · rw [hP]; unfold pcN; (repeat' split) <;> first | rfl | (exfalso; omega)
    · rw [lg4 A (by omega)]; omega
  ·
    refine RY 4 (by omega) ?_ ?_ (lg4 A (by omega)) ?_
    · rw [hM]; unfold mostN; (repeat' split) <;> omega
    · rw [hP]; unfold pcN; (repeat' split) <;> first | rfl | (exfalso; omega)
    · rw [if_neg (by omega), t4 (by omega)]; unfold decodeN
      have hb : B / 64 = 2 := by omega
      unfold lof at g2; unfold hif at g2
      rw [if_neg (by omega), if_neg (by omega), if_neg (by omega), if_pos (by omega), if_pos (by (repeat' split at g2) <;> omega)]
      dsimp only; omega
end Go.Proofs.YteffnlelmcbgmaaDoor
