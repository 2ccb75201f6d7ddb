/-
  Plain facts: what a digit of the base 16 stands for, which code points are letters and digits, and that setting bit 5 makes a small letter. No program in sight; the condition: the number fits an int32.
-/
import Derived.Test.YteffnlelmcbgmaaDoorMath
import Derived.Laws.Bits64
import Derived.Lib.IndexMore
namespace Go.Proofs.YteffnlelmcbgmaaDoor

def isDigit (r : Int) : Bool := decide (48 ≤ r ∧ r ≤ 57)
def isAlpha (r : Int) : Bool := decide ((65 ≤ r ∧ r ≤ 90) ∨ (97 ≤ r ∧ r ≤ 122))
/-- What a digit of the base 16 stands for, or -1. -/
def hexv (r : Int) : Int :=
  if 48 ≤ r ∧ r ≤ 57 then r - 48 else if 65 ≤ r ∧ r ≤ 70 then r - 55 else if 97 ≤ r ∧ r ≤ 102 then r - 87 else -1

theorem hexv_range (r : Int) : -1 ≤ hexv r ∧ hexv r ≤ 15 := by
  unfold hexv
  split
  · omega
  split
  · omega
  split <;> omega

theorem lor64 (q m : Nat) (h : m < 64) : (64 * q + m) ||| 32 = 64 * q + (m ||| 32) := by
  have h2 : m ||| 32 < 64 := by
    have := @Nat.or_lt_two_pow m 32 6 h (by decide)
    simpa using this
  apply Nat.eq_of_testBit_eq
  intro j
  have e1 := Nat.testBit_two_pow_mul_add q (i := 6) (b := m) (by simpa using h) j
  have e2 := Nat.testBit_two_pow_mul_add q (i := 6) (b := m ||| 32) (by simpa using h2) j
  simp only [show (2 : Nat) ^ 6 = 64 from rfl] at e1 e2
  rw [Nat.testBit_or, e1, e2]
  by_cases hj : j < 6
  · rw [if_pos hj, if_pos hj, Nat.testBit_or]
  · rw [if_neg hj, if_neg hj]
    have : Nat.testBit 32 j = false := by
      apply Nat.testBit_lt_two_pow
      have : (2 : Nat) ^ 6 ≤ 2 ^ j := Nat.pow_le_pow_right (by decide) (by omega)
      omega
    rw [this, Bool.or_false]

theorem lor_small (m : Nat) (h : m < 64) : m ||| 32 = if m / 32 = 0 then m + 32 else m := by
  have key : ∀ m : Fin 64, m.1 ||| 32 = if m.1 / 32 = 0 then m.1 + 32 else m.1 := by decide
  exact key ⟨m, h⟩

theorem or32 (r : Int) (h0 : -2147483648 ≤ r) (h1 : r ≤ 2147483647) : bits .or .i32 r 32 = if r % 64 < 32 then r + 32 else r := by
  have h32 : (BitVec.ofInt 32 32).toNat = 32 := by decide
  show IntKind.i32.wrap ((BitVec.ofInt 32 r ||| BitVec.ofInt 32 32).toNat : Nat) = _
  rw [BitVec.toNat_or, h32, BitVec.toNat_ofInt]
  obtain ⟨n, hn⟩ : ∃ n : Nat, (r % ((2 ^ 32 : Nat) : Int)).toNat = n := ⟨_, rfl⟩
  have hn1 : (n : Int) = r % 4294967296 := by
    rw [← hn]
    show ((r % 4294967296).toNat : Int) = _
    omega
  rw [hn]
  have e : n = 64 * (n / 64) + n % 64 := by omega
  have hs := lor_small (n % 64) (by omega)
  rw [e, lor64 _ _ (by omega), hs]
  simp only [IntKind.wrap, IntKind.bits, IntKind.signed]
  by_cases hm : r % 64 < 32
  · rw [if_pos hm, if_pos (by omega)]
    simp
    omega
  · rw [if_neg hm, if_neg (by omega)]
    simp
    omega

/-- What bytes stand for whose digits behind percent signs are read. -/
def dec : List UInt8 → List UInt8
  | [] => []
  | [c] => [c]
  | [c, d] => [c, d]
  | c :: a :: b :: r =>
    if c = 37 ∧ 0 ≤ hexv a.toNat ∧ 0 ≤ hexv b.toNat then (hexv a.toNat * 16 + hexv b.toNat).toNat.toUInt8 :: dec r else c :: dec (a :: b :: r)

theorem dec_plain (c : UInt8) (r : List UInt8) (h : c ≠ 37) : dec (c :: r) = c :: dec r := by
  match r with
  | [] => simp [dec]
  | [d] => simp [dec]
  | a :: b :: r => rw [dec, if_neg (by simp [h])]
theorem dec_short (r : List UInt8) (h : r.length < 2) : dec (37 :: r) = 37 :: dec r := by
  match r with
  | [] => simp [dec]
  | [d] => simp [dec]
  | a :: b :: r => simp at h; omega
theorem dec_hit (a b : UInt8) (r : List UInt8) (h1 : 0 ≤ hexv a.toNat) (h2 : 0 ≤ hexv b.toNat) : dec (37 :: a :: b :: r) = (hexv a.toNat * 16 + hexv b.toNat).toNat.toUInt8 :: dec r := by
  rw [dec, if_pos ⟨rfl, h1, h2⟩]
theorem dec_miss (a b : UInt8) (r : List UInt8) (h : ¬ (0 ≤ hexv a.toNat ∧ 0 ≤ hexv b.toNat)) : dec (37 :: a :: b :: r) = 37 :: dec (a :: b :: r) := by
  rw [dec, if_neg (fun x => h x.2)]
theorem dec_pass (a r : List UInt8) (h : (37 : UInt8) ∉ a) : dec (a ++ r) = a ++ dec r := by
  induction a with
  | nil => rfl
  | cons c a ih =>
    simp only [List.mem_cons, not_or] at h
    rw [List.cons_append, dec_plain c _ (Ne.symm h.1), ih h.2]; rfl
theorem dec_none (a : List UInt8) (h : (37 : UInt8) ∉ a) : dec a = a := by
  have := dec_pass a [] h
  simpa [dec] using this

theorem cut_one (l : List UInt8) (c : UInt8) : (c ∉ l ∧ Lib.cut l [c] = (l, [], false)) ∨ ∃ a r, l = a ++ c :: r ∧ c ∉ a ∧ Lib.cut l [c] = (a, r, true) := by
  rcases Lib.index_spec l [c] with ⟨h1, h2⟩ | ⟨i, h1, h2, h3, h4⟩
  · left
    constructor
    · intro hm
      obtain ⟨j, hj, hj2⟩ := List.getElem_of_mem hm
      have := h2 j (by omega)
      unfold Lib.occAt at this
      rw [List.drop_eq_getElem_cons hj, hj2] at this
      simp [List.isPrefixOf] at this
    · unfold Lib.cut; rw [h1]; simp
  · right
    have hi : i < l.length := by
      rcases Nat.lt_or_ge i l.length with h | h
      · exact h
      · have : l.drop i = [] := List.drop_eq_nil_of_le h
        unfold Lib.occAt at h3
        rw [this] at h3
        simp [List.isPrefixOf] at h3
    have hc : l[i] = c := by
      unfold Lib.occAt at h3
      rw [List.drop_eq_getElem_cons hi] at h3
      simp [List.isPrefixOf] at h3
      exact h3.symm
    refine ⟨l.take i, l.drop (i + 1), ?_, ?_, ?_⟩
    · rw [← hc, ← List.drop_eq_getElem_cons hi, List.take_append_drop]
    · intro hm
      obtain ⟨j, hj, hj2⟩ := List.getElem_of_mem hm
      simp at hj hj2
      have := h4 j (by omega)
      unfold Lib.occAt at this
      rw [List.drop_eq_getElem_cons (by omega), hj2] at this
      simp [List.isPrefixOf] at this
    · unfold Lib.cut
      rw [h1]
      simp
end Go.Proofs.YteffnlelmcbgmaaDoor
