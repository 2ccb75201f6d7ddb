/-
  Plain facts on bytes: which bytes a set of the URL standard holds. No program in sight, no condition.
-/
import Derived.Lib.Strings
import Derived.Lib.Bytealg
import Derived.Laws.BitsAll
namespace Go.Proofs.YteffnlelmcbgmaaDoor

/-- Is a byte (as a number) in a list of bytes? -/
def mem (l : List UInt8) (c : Int) : Bool := l.any fun x => (x.toNat : Int) == c
/-- The place of a byte (as a number) in a list of bytes. -/
def ixb (l : List UInt8) (c : Int) : Int := Lib.indexByte l c.toNat.toUInt8
/-- Is a byte one of a set? -/
def pin (c set : Int) : Bool :=
  if c < 32 ∨ 126 < c then true
  else if set = 1 then mem [32, 34, 60, 62, 96] c
  else if set = 6 then mem [32, 34, 35, 60, 62, 63, 94, 123, 125, 96, 47, 58, 59, 61, 64, 91, 92, 93, 124, 36, 37, 38, 43, 44] c
  else if set = 5 then mem [32, 34, 35, 60, 62, 63, 94, 123, 125, 96, 47, 58, 59, 61, 64, 91, 92, 93, 124] c
  else if set = 4 then mem [32, 34, 35, 60, 62, 63, 94, 123, 125, 96] c
  else if set = 3 then mem [32, 34, 35, 60, 62, 39] c
  else if set = 2 then mem [32, 34, 35, 60, 62] c
  else false

theorem indexByte_nonneg (l : List UInt8) (c : UInt8) : 0 ≤ Lib.indexByte l c ↔ c ∈ l := by
  induction l with
  | nil => simp [Lib.indexByte]
  | cons b l ih =>
    have hge := Lib.indexByte_ge l c
    unfold Lib.indexByte
    by_cases hb : b = c
    · subst hb; simp
    · have hb' : (b == c) = false := by simpa using hb
      rw [if_neg (by simp [hb'])]
      by_cases h1 : Lib.indexByte l c = -1
      · have : ¬ c ∈ l := fun h => by have := ih.2 h; omega
        simp [h1, this, Ne.symm hb]
      · have : c ∈ l := ih.1 (by omega)
        simp [h1, this]
        omega

theorem mem_iff (l : List UInt8) (c : Int) (h0 : 0 ≤ c) (h1 : c < 256) : mem l c = true ↔ c.toNat.toUInt8 ∈ l := by
  have key : ∀ x : UInt8, ((x.toNat : Int) = c ↔ x = c.toNat.toUInt8) := by
    intro x
    constructor
    · intro h
      apply UInt8.toNat_inj.1
      have : c.toNat = x.toNat := by omega
      rw [this]
      simp
    · rintro rfl
      simp
      omega
  induction l with
  | nil => simp [mem]
  | cons b l ih =>
    unfold mem at ih ⊢
    simp only [List.any_cons, Bool.or_eq_true, beq_iff_eq, key, ih, List.mem_cons]
    constructor
    · rintro (h | h)
      · exact .inl h.symm
      · exact .inr h
    · rintro (h | h)
      · exact .inl h.symm
      · exact .inr h

theorem ixb_mem (l : List UInt8) (c : Int) (h0 : 0 ≤ c) (h1 : c < 256) : 0 ≤ ixb l c ↔ mem l c = true := by
  rw [mem_iff l c h0 h1]; exact indexByte_nonneg _ _

theorem mem_append (a b : List UInt8) (c : Int) : mem (a ++ b) c = (mem a c || mem b c) := by simp [mem]

theorem mem_take_succ (l : List UInt8) (k : Nat) (h : k < l.length) (c : Int) : mem (l.take (k + 1)) c = (mem (l.take k) c || ((l[k].toNat : Int) == c)) := by
  rw [List.take_succ_eq_append_getElem h, mem_append]; simp [mem]

theorem ixb_dec (l : List UInt8) (c : Int) (h0 : 0 ≤ c) (h1 : c < 256) : decide (0 ≤ ixb l c) = mem l c := by
  rw [Bool.eq_iff_iff]; simp only [decide_eq_true_eq]; exact ixb_mem l c h0 h1

/-- A digit of the base 16, as a great letter. -/
def hexd (n : Nat) : UInt8 := [48, 49, 50, 51, 52, 53, 54, 55, 56, 57, 65, 66, 67, 68, 69, 70].getD n 0
/-- What is written of a byte; of bytes. -/
def encB (set : Int) (c : UInt8) : List UInt8 := if pin c.toNat set then [37, hexd (c.toNat / 16), hexd (c.toNat % 16)] else [c]
def enc (set : Int) (l : List UInt8) : List UInt8 := l.flatMap (encB set)

theorem enc_snoc (set : Int) (l : List UInt8) (c : UInt8) : enc set (l ++ [c]) = enc set l ++ encB set c := by simp [enc]
theorem enc_append (set : Int) (a b : List UInt8) : enc set (a ++ b) = enc set a ++ enc set b := by simp [enc]
theorem encB_le (set : Int) (c : UInt8) : (encB set c).length ≤ 3 := by unfold encB; split <;> simp
theorem enc_le (set : Int) (l : List UInt8) : (enc set l).length ≤ 3 * l.length := by
  induction l with
  | nil => simp [enc]
  | cons c l ih => have := encB_le set c; simp only [enc, List.flatMap_cons, List.length_append, List.length_cons] at ih ⊢; omega
theorem take_snoc (s : ByteArray) (k : Nat) (h : k < s.size) : s.data.toList.take (k + 1) = s.data.toList.take k ++ [s[k]] := by
  rw [List.take_succ_eq_append_getElem (by simpa using h)]; rfl
theorem encB_in (set : Int) (c : UInt8) (h : pin c.toNat set = true) : encB set c = [37, hexd (c.toNat / 16), hexd (c.toNat % 16)] := by rw [encB, if_pos h]
theorem encB_out (set : Int) (c : UInt8) (h : pin c.toNat set = false) : encB set c = [c] := by rw [encB, if_neg (by simp [h])]
end Go.Proofs.YteffnlelmcbgmaaDoor
