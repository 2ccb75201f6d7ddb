/- Plain facts on bytes: which bytes a set of the URL standard holds. No program in sight, no condition. -/
import Derived.Lib.Strings
import Derived.Lib.Bytealg
import Derived.Laws.BitsAll
import Derived.Laws.Bits64
import Derived.Lib.IndexMore
import Derived.Test.YtepcpgdfbaklfaaGreatDoorMcLib
import Derived.Test.YtepcpgdfbaklfaaGreatDoorProg
import Derived.WalkKit
import Derived.WalkSpells
import Derived.WalkLawsBesides
import Derived.Lib.Hide
import Derived.Outline
import Derived.Test.YtepcpgdfbaklfaaGreatDoorMcTp0
import Derived.Shelf.GgClosure.StringsIndexFunc
import Derived.Laws.RangeAny
import Derived.Laws.RangeString
import Derived.Lib.FieldsP
import Derived.Lib.SpaceUEq
import Derived.Lib.SlicesS
import Derived.Lib.SplitLaws
import Derived.Lib.IndexLaws
namespace Go.Proofs.YtepcpgdfbaklfaaGreatDoor
def mem (l : List UInt8) (c : Int) : Bool := l.any fun x => (x.toNat : Int) == c
def pin (c set : Int) : Bool :=
 if c < 32 ∨ 126 < c then true
 else if set = 1 then mem [32, 34, 60, 62, 96] c
 else if set = 6 then mem [32, 34, 35, 60, 62, 63, 94, 123, 125, 96, 47, 58, 59, 61, 64, 91, 92, 93, 124, 36, 37, 38, 43, 44] c
 else if set = 5 then mem [32, 34, 35, 60, 62, 63, 94, 123, 125, 96, 47, 58, 59, 61, 64, 91, 92, 93, 124] c
 else if set = 4 then mem [32, 34, 35, 60, 62, 63, 94, 123, 125, 96] c
 else if set = 3 then mem [32, 34, 35, 60, 62, 39] c
 else if set = 2 then mem [32, 34, 35, 60, 62] c
 else false
theorem mem_append (a b : List UInt8) (c : Int) : mem (a ++ b) c = (mem a c || mem b c) := by simp [mem]
def hexd (n : Nat) : UInt8 := [48, 49, 50, 51, 52, 53, 54, 55, 56, 57, 65, 66, 67, 68, 69, 70].getD n 0
def encB (set : Int) (c : UInt8) : List UInt8 := if pin c.toNat set then [37, hexd (c.toNat / 16), hexd (c.toNat % 16)] else [c]
def enc (set : Int) (l : List UInt8) : List UInt8 := l.flatMap (encB set)
def isDigit (r : Int) : Bool := decide (48 ≤ r ∧ r ≤ 57)
def isAlpha (r : Int) : Bool := decide ((65 ≤ r ∧ r ≤ 90) ∨ (97 ≤ r ∧ r ≤ 122))
theorem lor64 (q m : Nat) (h : m < 64) : (64 * q + m) ||| 32 = 64 * q + (m ||| 32) := by
 have h2 : m ||| 32 < 64 := by
  have := @Nat.or_lt_two_pow m 32 6 h (by decide)
  simpa using this
 apply Nat.eq_of_testBit_eq
 intro j
 have e1 := Nat.testBit_two_pow_mul_add q (i := 6) (b := m) (by simpa using h) j
 have e2 := Nat.testBit_two_pow_mul_add q (i := 6) (b := m ||| 32) (by simpa using h2) j
 simp only [show (2 : Nat) ^ 6 = 64 from rfl] at e1 e2
 rw [Nat.testBit_or, e1, e2]
 by_cases hj : j < 6
 · rw [if_pos hj, if_pos hj, Nat.testBit_or]
 · rw [if_neg hj, if_neg hj]
   have : Nat.testBit 32 j = false := by
    apply Nat.testBit_lt_two_pow
    have : (2 : Nat) ^ 6 ≤ 2 ^ j := Nat.pow_le_pow_right (by decide) (by omega)
    omega
   rw [this, Bool.or_false]
theorem lor_small (m : Nat) (h : m < 64) : m ||| 32 = if m / 32 = 0 then m + 32 else m := by
 have key : ∀ m : Fin 64, m.1 ||| 32 = if m.1 / 32 = 0 then m.1 + 32 else m.1 := by decide
 exact key ⟨m, h⟩
theorem or32 (r : Int) (h0 : -2147483648 ≤ r) (h1 : r ≤ 2147483647) : bits .or .i32 r 32 = if r % 64 < 32 then r + 32 else r := by
 have h32 : (BitVec.ofInt 32 32).toNat = 32 := by decide
 show IntKind.i32.wrap ((BitVec.ofInt 32 r ||| BitVec.ofInt 32 32).toNat : Nat) = _
 rw [BitVec.toNat_or, h32, BitVec.toNat_ofInt]
 obtain ⟨n, hn⟩ : ∃ n : Nat, (r % ((2 ^ 32 : Nat) : Int)).toNat = n := ⟨_, rfl⟩
 have hn1 : (n : Int) = r % 4294967296 := by
  rw [← hn]
  show ((r % 4294967296).toNat : Int) = _
  omega
 rw [hn]
 have e : n = 64 * (n / 64) + n % 64 := by omega
 have hs := lor_small (n % 64) (by omega)
 rw [e, lor64 _ _ (by omega), hs]
 simp only [IntKind.wrap, IntKind.bits, IntKind.signed]
 by_cases hm : r % 64 < 32
 · rw [if_pos hm, if_pos (by omega)]
   simp
   omega
 · rw [if_neg hm, if_neg (by omega)]
   simp
   omega
set_option linter.unusedVariables false
open Go.RowKit
theorem digit_calls (r : Int) (w : World) :
 Calls Tryz.prog 105 #[.int .i32 r] w fun e w' => e = .returned (.bool (isDigit r)) ∧ w = w' := by
 by_cases h1 : 48 ≤ r
 · by_cases h2 : r ≤ 57
   · have H : Hid (isDigit r = true) := by unfold Hid isDigit; simp; omega
     go_enter Tryz.func105, Tryz.ntmps105
     go_wp2
     go_ret
     exact ⟨ret_bool H.out.symm, rfl⟩
   · have H : Hid (isDigit r = false) := by unfold Hid isDigit; simp; omega
     have h3 : 57 < r := by omega
     go_enter Tryz.func105, Tryz.ntmps105
     go_wp2
     go_ret
     exact ⟨ret_bool H.out.symm, rfl⟩
 · have H : Hid (isDigit r = false) := by unfold Hid isDigit; simp; omega
   have h3 : r < 48 := by omega
   go_enter Tryz.func105, Tryz.ntmps105
   go_wp2
   go_ret
   exact ⟨ret_bool H.out.symm, rfl⟩
theorem alpha_calls (r : Int) (w : World) (g0 : -2147483648 ≤ r) (g1 : r ≤ 2147483647) :
 Calls Tryz.prog 108 #[.int .i32 r] w fun e w' => e = .returned (.bool (isAlpha r)) ∧ w = w' := by
 have HO := or32 r g0 g1
 have HA : Hid (isAlpha r = decide (97 ≤ bits .or .i32 r 32 ∧ bits .or .i32 r 32 ≤ 122)) := by
  unfold Hid isAlpha
  rw [HO]
  apply decide_eq_decide.2
  split <;> omega
 clear HO
 by_cases h1 : 97 ≤ bits .or .i32 r 32
 · by_cases h2 : bits .or .i32 r 32 ≤ 122
   · go_enter Tryz.func108, Tryz.ntmps108
     go_wp2
     go_ret
     exact ⟨ret_bool (by rw [HA.out]; simp [h1, h2]), rfl⟩
   · have h3 : 122 < bits .or .i32 r 32 := by omega
     go_enter Tryz.func108, Tryz.ntmps108
     go_wp2
     go_ret
     exact ⟨ret_bool (by rw [HA.out]; simp [h1, h2]), rfl⟩
 · have h3 : bits .or .i32 r 32 < 97 := by omega
   go_enter Tryz.func108, Tryz.ntmps108
   go_wp2
   go_ret
   exact ⟨ret_bool (by rw [HA.out, decide_eq_false (by omega)]), rfl⟩
theorem digitR_calls (r : Int) (w : World) : Calls Tryz.prog 136 #[.int .i32 r] w fun e w' => e = .returned (.bool (isDigit r)) ∧ w = w' := by
 by_cases h1 : 48 ≤ r
 · by_cases h2 : r ≤ 57
   ·
    have H : Hid (isDigit r = true) := by unfold Hid isDigit; simp; omega
    go_enter Tryz.func136, Tryz.ntmps136
    go_wp2
    go_ret
    exact ⟨ret_bool H.out.symm, rfl⟩
   ·
    have H : Hid (isDigit r = false) := by unfold Hid isDigit; simp; omega
    go_enter Tryz.func136, Tryz.ntmps136
    go_wp2
    go_ret
    exact ⟨ret_bool H.out.symm, rfl⟩
 ·
  have H : Hid (isDigit r = false) := by unfold Hid isDigit; simp; omega
  go_enter Tryz.func136, Tryz.ntmps136
  go_wp2
  go_ret
  exact ⟨ret_bool H.out.symm, rfl⟩
theorem alphaR_calls (r : Int) (w : World) : Calls Tryz.prog 135 #[.int .i32 r] w fun e w' => e = .returned (.bool (isAlpha r)) ∧ w = w' := by
 by_cases h1 : 65 ≤ r
 · by_cases h2 : r ≤ 90
   ·
    have H : Hid (isAlpha r = true) := by unfold Hid isAlpha; simp; omega
    go_enter Tryz.func135, Tryz.ntmps135
    go_wp2
    go_ret
    exact ⟨ret_bool H.out.symm, rfl⟩
   · by_cases h3 : 97 ≤ r
     · by_cases h4 : r ≤ 122
       ·
        have H : Hid (isAlpha r = true) := by unfold Hid isAlpha; simp; omega
        go_enter Tryz.func135, Tryz.ntmps135
        go_wp2
        go_ret
        exact ⟨ret_bool H.out.symm, rfl⟩
       ·
        have H : Hid (isAlpha r = false) := by unfold Hid isAlpha; simp; omega
        go_enter Tryz.func135, Tryz.ntmps135
        go_wp2
        go_ret
        exact ⟨ret_bool H.out.symm, rfl⟩
     ·
      have H : Hid (isAlpha r = false) := by unfold Hid isAlpha; simp; omega
      go_enter Tryz.func135, Tryz.ntmps135
      go_wp2
      go_ret
      exact ⟨ret_bool H.out.symm, rfl⟩
 · have h3 : ¬ 97 ≤ r := by omega
   have H : Hid (isAlpha r = false) := by unfold Hid isAlpha; simp; omega
   go_enter Tryz.func135, Tryz.ntmps135
   go_wp2
   go_ret
   exact ⟨ret_bool H.out.symm, rfl⟩
open Go.Lib
theorem get_drop (s : ByteArray) (pos : Nat) (h : pos < s.size) : s.data.toList.drop pos = s[pos] :: s.data.toList.drop (pos + 1) := by
 rw [List.drop_eq_getElem_cons (by simpa using h)]; rfl
theorem idx_any (p : Nat → Bool) (pb : UInt8 → Bool) (h1 : ∀ c : UInt8, c.toNat < 128 → p c.toNat = pb c) (h2 : ∀ r, 128 ≤ r → p r = true) (h3 : ∀ c : UInt8, 128 ≤ c.toNat → pb c = true) (s : ByteArray) :
 decide (0 ≤ idxFunc p true s) = s.data.toList.any pb := by
 have key : ∀ (f pos : Nat), s.size - pos ≤ f → decide (0 ≤ idxFuncFrom p true s f pos) = (s.data.toList.drop pos).any pb := by
  intro f
  induction f with
  | zero =>
    intro pos hf
    rw [List.drop_of_length_le (by simp; omega)]
    simp [idxFuncFrom]
  | succ f ih =>
    intro pos hf
    by_cases hp : pos < s.size
    · rw [get_drop s pos hp, List.any_cons, idxFuncFrom, if_pos hp]
      by_cases hc : s[pos].toNat < 128
      · rw [decode_ascii s pos hp hc, h1 _ hc]
        cases hb : pb s[pos] with
        | true => simp
        | false =>
          simp only [Bool.false_eq_true, if_false, Bool.false_or]
          exact ih (pos + 1) (by omega)
      · have hh := decode_high s pos hp (by omega)
        rw [h2 _ hh.1, if_pos rfl, h3 _ (by omega)]
        simp
    · rw [idxFuncFrom_end _ _ _ _ _ hp, List.drop_of_length_le (by simp; omega)]
      simp
 have := key s.size 0 (by omega)
 rwa [List.drop_zero] at this
def notWd (r : Nat) : Bool := !(decide ((65 ≤ r ∧ r ≤ 90) ∨ (97 ≤ r ∧ r ≤ 122)) || decide (48 ≤ r ∧ r ≤ 57) || decide (r = 95))
theorem notWd_byte (c : UInt8) : notWd c.toNat = !wdB c := by
 unfold notWd wdB alB dgB
 congr 1
 have e : decide (c = 95) = decide (c.toNat = 95) := by
  apply decide_eq_decide.2
  constructor
  · rintro rfl; rfl
  · intro h; exact UInt8.toNat_inj.1 h
 rw [e]
 congr 1; congr 1
 rw [Bool.eq_iff_iff]; simp
theorem notWd_high (r : Nat) (h : 128 ≤ r) : notWd r = true := by unfold notWd; simp; omega
theorem wd_high (c : UInt8) (h : 128 ≤ c.toNat) : wdB c = false := by
 have h1 := notWd_byte c
 rw [notWd_high _ h] at h1
 cases hw : wdB c
 · rfl
 · rw [hw] at h1; cases h1
theorem letters_all (s : ByteArray) : (!decide (0 ≤ idxFunc notWd true s)) = s.data.toList.all wdB := by
 rw [idx_any notWd (fun c => !wdB c) (fun c _ => notWd_byte c) notWd_high (fun c h => by simp [wd_high c h])]
 rw [List.not_any_eq_all_not]
 simp
theorem lets_eq (s : By) (h : s ≠ []) (h64 : s.length ≤ 64) (hd : dgB (s.getD 0 0) = false) : lets s = s.all wdB := by
 cases s with
 | nil => exact absurd rfl h
 | cons c r =>
   simp only [List.getD_cons_zero] at hd
   simp only [List.length_cons] at h64
   simp [lets, hd, h64]
theorem lets_long (s : By) (h : 64 < s.length) : lets s = false := by
 cases s with
 | nil => rfl
 | cons c r => simp only [List.length_cons] at h; simp [lets]; omega
theorem lets_digit (s : By) (h : dgB (s.getD 0 0) = true) : lets s = false := by
 cases s with
 | nil => rfl
 | cons c r => simp only [List.getD_cons_zero] at h; simp [lets, h]
def blankR (r : Nat) : Bool := decide (r = 9 ∨ r = 10 ∨ r = 32)
theorem blankR_byte (c : UInt8) : blankR c.toNat = blank c := by
 unfold blankR blank
 apply decide_eq_decide.2
 have e : ∀ k : UInt8, c = k ↔ c.toNat = k.toNat := fun k => ⟨fun h => by rw [h], fun h => UInt8.toNat_inj.1 h⟩
 rw [e 9, e 10, e 32]; rfl
theorem blankR_high (r : Nat) (h : 128 ≤ r) : blankR r = false := by unfold blankR; simp; omega
theorem blank_high (c : UInt8) (h : 128 ≤ c.toNat) : blank c = false := by rw [← blankR_byte]; exact blankR_high _ h
theorem rune_noBl (s : ByteArray) (pos : Nat) (hp : pos < s.size) (h : blankR (Utf8.decode s pos).1 = false) : pos + (Utf8.decode s pos).2 ≤ s.size ∧ 1 ≤ (Utf8.decode s pos).2 ∧ ∀ x ∈ (s.data.toList.drop pos).take (Utf8.decode s pos).2, blank x = false := by
 have hsl : s.data.toList.length = s.size := by simp
 by_cases hc : s[pos].toNat < 128
 · rw [decode_ascii s pos hp hc] at h ⊢
   refine ⟨hp, Nat.le_refl _, ?_⟩
   rw [get_drop s pos hp]
   intro x hx
   simp at hx
   rw [hx, ← blankR_byte]; exact h
 · have hh := decode_high s pos hp (by omega)
   have hD := decode_N s pos
   obtain ⟨g1, g2, g3, g4⟩ := decodeN_conts (s.data.toList.length - pos) (s.data.toList.getD pos 0).toNat (s.data.toList.getD (pos + 1) 0).toNat (s.data.toList.getD (pos + 2) 0).toNat (s.data.toList.getD (pos + 3) 0).toNat
   have gl := decodeN_le_n' (s.data.toList.length - pos) (s.data.toList.getD pos 0).toNat (s.data.toList.getD (pos + 1) 0).toNat (s.data.toList.getD (pos + 2) 0).toNat (s.data.toList.getD (pos + 3) 0).toNat (by omega)
   rw [← hD] at g1 g2 g3 g4 gl
   refine ⟨by omega, hh.2, ?_⟩
   intro x hx
   obtain ⟨j, hj, hx2⟩ := List.getElem_of_mem hx
   rw [List.getElem_take, List.getElem_drop] at hx2
   have hjw : j < (Utf8.decode s pos).2 := by simp at hj; omega
   have e : x = s.data.toList.getD (pos + j) 0 := by rw [← hx2]; simp [List.getD, List.getElem?_eq_getElem (show pos + j < s.data.toList.length by omega)]
   have e0 : s.data.toList.getD pos 0 = s[pos] := by simp [List.getD, List.getElem?_eq_getElem (show pos < s.data.toList.length by omega)]; rfl
   apply blank_high
   rw [e]
   rcases (by omega : j = 0 ∨ j = 1 ∨ j = 2 ∨ j = 3) with rfl | rfl | rfl | rfl
   · rw [Nat.add_zero, e0]; omega
   · have := (g1 (by omega)).1; omega
   · have := (g2 (by omega)).1; omega
   · have := (g3 (by omega)).1; omega
def pieceS (s : ByteArray) (a b : Nat) : By := (s.data.toList.drop a).take (b - a)
theorem piece_split (s : ByteArray) (a pos : Nat) (h : a ≤ pos) : s.data.toList.drop a = pieceS s a pos ++ s.data.toList.drop pos := by
 unfold pieceS
 have : (s.data.toList.drop a).drop (pos - a) = s.data.toList.drop pos := by rw [List.drop_drop]; congr 1; omega
 rw [← this, List.take_append_drop]
theorem piece_grow (s : ByteArray) (a pos k : Nat) (h : a ≤ pos) : pieceS s a (pos + k) = pieceS s a pos ++ (s.data.toList.drop pos).take k := by
 unfold pieceS
 have e : s.data.toList.drop pos = (s.data.toList.drop a).drop (pos - a) := by rw [List.drop_drop]; congr 1; omega
 rw [e, show pos + k - a = (pos - a) + k by omega, List.take_add]
theorem words_blank (c : UInt8) (r : By) (h : blank c = true) : wordsB (c :: r) = wordsB r := by
 unfold wordsB
 rw [splitP, if_pos h]
 simp
theorem words_piece (a r : By) (c : UInt8) (h : noBl a) (hn : a ≠ []) (hc : blank c = true) : wordsB (a ++ c :: r) = a :: wordsB r := by
 unfold wordsB; rw [splitP_cons _ _ _ _ h hc]; simp [hn]
theorem spans_words (s : ByteArray) : ∀ (f pos : Nat) (st : Option Nat) (acc : List (Nat × Nat)), s.size ≤ pos + f → pos ≤ s.size → (∀ a, st = some a → a < pos ∧ noBl (pieceS s a pos)) →
 (closeSpans s (spansFromP blankR s f pos st acc)).map (fun x => pieceS s x.1 x.2) = acc.map (fun x => pieceS s x.1 x.2) ++ wordsB (s.data.toList.drop (st.getD pos)) := by
 have hsl : s.data.toList.length = s.size := by simp
 have fin : ∀ (pos : Nat) (st : Option Nat) (acc : List (Nat × Nat)), ¬ pos < s.size → pos ≤ s.size → (∀ a, st = some a → a < pos ∧ noBl (pieceS s a pos)) →
  (closeSpans s (acc, st)).map (fun x => pieceS s x.1 x.2) = acc.map (fun x => pieceS s x.1 x.2) ++ wordsB (s.data.toList.drop (st.getD pos)) := by
  intro pos st acc h1 h2 h3
  obtain rfl : pos = s.size := by omega
  cases st with
  | none =>
    have e : s.data.toList.drop s.size = [] := List.drop_of_length_le (by omega)
    simp only [closeSpans, Option.getD_none]
    rw [e]; simp [wordsB, splitP]
  | some a =>
    obtain ⟨h4, h5⟩ := h3 a rfl
    have e : s.data.toList.drop a = pieceS s a s.size := by unfold pieceS; rw [List.take_of_length_le (by simp)]
    simp only [closeSpans, List.map_append, List.map_cons, List.map_nil, Option.getD_some]
    rw [e, words1 _ h5 (by intro e2; have := congrArg List.length e2; simp [pieceS] at this; omega)]
 intro f
 induction f with
 | zero =>
   intro pos st acc h1 h2 h3
   exact fin pos st acc (by omega) h2 h3
 | succ f ih =>
   intro pos st acc h1 h2 h3
   by_cases hp : pos < s.size
   · unfold spansFromP
     rw [if_pos hp]
     cases hb : blankR (Utf8.decode s pos).1 with
     | true =>
       rw [if_pos rfl]
       have hc : s[pos].toNat < 128 := by
        rcases Nat.lt_or_ge s[pos].toNat 128 with h | h
        · exact h
        · have := decode_high s pos hp h
          rw [blankR_high _ this.1] at hb; cases hb
       rw [decode_ascii s pos hp hc] at hb ⊢
       rw [blankR_byte] at hb
       cases st with
       | none =>
         dsimp only
         rw [ih (pos + 1) none acc (by omega) (by omega) (fun a h => by cases h)]
         simp only [Option.getD_none]
         rw [get_drop s pos hp, words_blank _ _ hb]
       | some a =>
         obtain ⟨h4, h5⟩ := h3 a rfl
         dsimp only
         rw [ih (pos + 1) none (acc ++ [(a, pos)]) (by omega) (by omega) (fun a h => by cases h)]
         simp only [Option.getD_none, Option.getD_some, List.map_append, List.map_cons, List.map_nil, List.append_assoc]
         rw [piece_split s a pos (by omega), get_drop s pos hp, words_piece _ _ _ h5 (by intro e2; have := congrArg List.length e2; simp [pieceS] at this; omega) hb]
         rfl
     | false =>
       obtain ⟨w1, w2, w3⟩ := rune_noBl s pos hp hb
       rw [if_neg (by simp)]
       cases st with
       | none =>
         dsimp only
         rw [ih _ (some pos) acc (by omega) w1 (fun a h => by
          obtain rfl : pos = a := by injection h
          refine ⟨by omega, ?_⟩
          unfold pieceS
          rw [show pos + (Utf8.decode s pos).2 - pos = (Utf8.decode s pos).2 by omega]
          exact w3)]
         simp
       | some a =>
         obtain ⟨h4, h5⟩ := h3 a rfl
         dsimp only
         rw [ih _ (some a) acc (by omega) w1 (fun a' h => by
          obtain rfl : a = a' := by injection h
          refine ⟨by omega, ?_⟩
          rw [piece_grow s a pos _ (by omega)]
          intro x hx
          rcases List.mem_append.1 hx with hx | hx
          · exact h5 x hx
          · exact w3 x hx)]
         simp
   · rw [spansFromP_end _ _ _ _ _ _ hp]
     exact fin pos st acc hp h2 h3
theorem fields_words (s : ByteArray) : (goFieldsP blankR s).map bl = wordsB (bl s) := by
 have := spans_words s s.size 0 none [] (by omega) (by omega) (fun a h => by cases h)
 simp only [List.map_nil, List.nil_append, Option.getD_none, List.drop_zero] at this
 unfold goFieldsP spansOfP
 rw [List.map_map]
 have e : (bl ∘ fun x : Nat × Nat => s.extract x.1 x.2) = fun x => pieceS s x.1 x.2 := by
  funext x
  simp only [Function.comp, bl, pieceS, extract_data]
 rw [e]; exact this
open Go.RowKit Go.Shelf
theorem wdr_eq (r : Nat) : notWd r = (!isAlpha (r : Int) && !isDigit (r : Int) && decide (r ≠ 95)) := by
 unfold notWd isAlpha isDigit
 rw [Bool.eq_iff_iff]
 simp
 omega
theorem lettersF_calls (r : Nat) (hr : r ≤ 1114111) (w : World) :
 Calls Tryz.prog 107 #[.int .i32 (r : Int)] w fun e w' => e = .returned (.bool (notWd r)) ∧ w = w' := by
 have AL := Lib.hid (fun w => alpha_calls (r : Int) w (by omega) (by omega))
 have DG := Lib.hid (fun w => digit_calls (r : Int) w)
 have HW := Lib.hid (wdr_eq r)
 have h0 : (0 : Int) ≤ (r : Int) := by omega
 rcases ha : isAlpha (r : Int) with _ | _
 · rcases hd : isDigit (r : Int) with _ | _
   · rw [ha] at AL HW
     rw [hd] at DG HW
     have HE : Hid (notWd r = ((r : Int) != 95)) := by
      unfold Hid
      rw [HW.out, Bool.eq_iff_iff]
      simp
      omega
     clear ha hd HW
     go_enter Tryz.func107, Tryz.ntmps107
     go_wp2_with (first | (go_at_call 108; refine (AL.out _).mono ?_; rintro e w' ⟨rfl, rfl⟩) | (go_at_call 105; refine (DG.out _).mono ?_; rintro e w' ⟨rfl, rfl⟩))
     go_ret
     exact ⟨ret_bool HE.out.symm, rfl⟩
   · rw [ha] at AL HW
     rw [hd] at DG HW
     have HE : Hid (notWd r = false) := by unfold Hid; rw [HW.out]; rfl
     clear ha hd HW
     go_enter Tryz.func107, Tryz.ntmps107
     go_wp2_with (first | (go_at_call 108; refine (AL.out _).mono ?_; rintro e w' ⟨rfl, rfl⟩) | (go_at_call 105; refine (DG.out _).mono ?_; rintro e w' ⟨rfl, rfl⟩))
     go_ret
     exact ⟨ret_bool HE.out.symm, rfl⟩
 · rw [ha] at AL HW
   have HE : Hid (notWd r = false) := by unfold Hid; rw [HW.out]; rfl
   clear ha HW
   go_enter Tryz.func107, Tryz.ntmps107
   go_wp2_with (first | (go_at_call 108; refine (AL.out _).mono ?_; rintro e w' ⟨rfl, rfl⟩))
   go_ret
   exact ⟨ret_bool HE.out.symm, rfl⟩
theorem enters_lettersF : ∀ args w, (callFunc 107 args).run Tryz.prog w = .ok (.enter 107 args) w := enters_of Tryz.func107 (by kernel_rfl) rfl
theorem lettersC_calls (s : ByteArray) (w : World) :
 Calls Tryz.prog 106 #[.string s, .func (.func 107) #[] #[]] w fun e w' => e = .returned (.bool (!s.data.toList.all wdB)) ∧ Below w.heap.size w w' := by
 refine (Tryz.strings_ContainsFunc_grows 107 #[] enters_lettersF notWd s w ?_).mono ?_
 · intro W x hx hb
   refine (lettersF_calls x hx W).mono ?_
   rintro e w' ⟨rfl, rfl⟩
   exact ⟨rfl, Below.refl _ _⟩
 · rintro e w' ⟨rfl, hb⟩
   have := letters_all s
   refine ⟨ret_bool ?_, hb⟩
   rw [← this]; simp
theorem size0 (s : ByteArray) (h : s.size = 0) : s = ⟨#[]⟩ := by
 obtain ⟨⟨l⟩⟩ := s
 simp [ByteArray.size] at h
 subst h; rfl
theorem ne_str (s : ByteArray) (h : 0 < s.size) : s.toList.isEmpty = false := by
 rw [ByteArray.toList_eq]
 obtain ⟨⟨l⟩⟩ := s
 cases l with
 | nil => simp [ByteArray.size] at h
 | cons c r => rfl
theorem dg_byte (s : ByteArray) (h : 0 < s.size) : isDigit (((s[0]'h).toNat : Nat) : Int) = dgB (s.data.toList.getD 0 0) := by
 rw [byte_get s 0 h]
 unfold isDigit dgB
 apply decide_eq_decide.2
 omega
set_option maxHeartbeats 1000000 in
theorem letters_calls (s : ByteArray) (hs : s.size ≤ 140737488351232) (w : World) :
 Calls Tryz.prog 65 #[.string s] w fun e w' => e = .returned (.bool (lets s.data.toList)) ∧ Below w.heap.size w w' := by
 by_cases h0 : s.size = 0
 · obtain rfl := size0 s h0
   have HE : Hid (lets (⟨#[]⟩ : ByteArray).data.toList = false) := rfl
   clear h0 hs
   go_enter Tryz.func65, Tryz.ntmps65
   go_wp2_with fail
   go_ret
   exact ⟨ret_bool HE.out.symm, Below.refl _ _⟩
 have hne := ne_str s (by omega)
 have hp : 0 < s.size := by omega
 have hp' : (0 : Int) < (s.size : Int) := by omega
 by_cases h64 : 64 < s.size
 · have HE : Hid (lets s.data.toList = false) := lets_long _ (by simpa using h64)
   have h64' : (64 : Int) < (s.size : Int) := by omega
   clear h0
   go_enter Tryz.func65, Tryz.ntmps65
   go_wp2_with fail
   go_ret
   exact ⟨ret_bool HE.out.symm, Below.refl _ _⟩
 have h64' : ¬ (64 : Int) < (s.size : Int) := by omega
 have DG := Lib.hid (fun w => digit_calls (((s[0]'hp).toNat : Nat) : Int) w)
 have hd0 := dg_byte s hp
 have hb : (s[0]'hp).toNat < 256 := (s[0]'hp).toNat_lt
 cases hd : dgB (s.data.toList.getD 0 0) with
 | true =>
   have HE : Hid (lets s.data.toList = false) := lets_digit _ hd
   rw [hd0, hd] at DG
   clear h0 hd0 hd
   go_enter Tryz.func65, Tryz.ntmps65
   go_wp2_with fail
   refine (DG.out _).mono ?_
   rintro e w' ⟨rfl, rfl⟩
   go_wp2_with fail
   go_ret
   exact ⟨ret_bool HE.out.symm, Below.refl _ _⟩
 | false =>
   have hsl : s.data.toList.length = s.size := by simp
   have hnl : s.data.toList ≠ [] := by intro e; rw [e] at hsl; simp at hsl; omega
   have HE : Hid (lets s.data.toList = s.data.toList.all wdB) := lets_eq _ hnl (by omega) hd
   have LC := Lib.hid (fun w => lettersC_calls s w)
   rw [hd0, hd] at DG
   clear h0 hd0 hd hnl hsl
   generalize s.data.toList.all wdB = v at *
   go_enter Tryz.func65, Tryz.ntmps65
   go_wp2_with fail
   refine (DG.out _).mono ?_
   rintro e w' ⟨rfl, rfl⟩
   go_wp2_with fail
   have hmf : ∀ (fn : Fn) (first cap : Array Value) (w : World), (Instr.makeFunc fn first cap).run Tryz.prog w = .ok (.func fn first cap) w := fun _ _ _ _ => rfl
   refine (LC.out _).mono ?_
   rintro e w1 ⟨rfl, hb1⟩
   have HB := Lib.hid hb1
   clear hb1
   go_wp2_with fail
   go_ret
   exact ⟨ret_bool (by rw [HE.out]), HB.out⟩
theorem letters_any (s : ByteArray) (hs : s.size ≤ 140737488351232) (w : World) :
 Calls Tryz.prog 65 #[.string s] w fun e w' => e = .returned (.bool (lets (bl s))) ∧ Below w.heap.size w w' := letters_calls s hs w
theorem namedF_calls (s : ByteArray) (hs : s.size ≤ 140737488351232) (w : World) :
 Calls Tryz.prog 103 #[.string s] w fun e w' => e = .returned (.bool (!lets (bl s))) ∧ Below w.heap.size w w' := by
 have LC := Lib.hid (fun w => letters_any s hs w)
 generalize lets (bl s) = v at *
 go_enter Tryz.func103, Tryz.ntmps103
 go_wp2_with fail
 refine (LC.out _).mono ?_
 rintro e w1 ⟨rfl, hb1⟩
 go_wp2_with fail
 go_ret
 exact ⟨rfl, hb1⟩
def badN : List ByteArray → Nat → Int
 | [], _ => -1
 | s :: l, k => if lets (bl s) then badN l (k + 1) else (k : Int)
theorem badN_all (l : List ByteArray) : ∀ k, decide (0 ≤ badN l k) = !namesOk (bls l) := by
 induction l with
 | nil => intro k; rfl
 | cons s l ih =>
   intro k
   unfold badN
   split
   · rename_i h
     rw [ih]
     simp [namesOk, bls, h]
   · rename_i h
     simp [namesOk, bls, h]
set_option maxHeartbeats 1000000 in
theorem indexN_calls (ok : Nat → Prop) (l : List ByteArray) (hl : l.length ≤ 140737488351232) (hs : ∀ s ∈ l, s.size ≤ 140737488351232) (v : Value) (w : World) (h : Strs ok w v l) (hok : ∀ b, ok b → b < w.heap.size) :
 Calls Tryz.prog 138 #[v, .func (.func 103) #[] #[]] w fun e w' => e = .returned (.int .i64 (badN l 0)) ∧ Below w.heap.size w w' := by
 obtain ⟨a, c, rfl, h1, h2, h3⟩ := h
 have ee : ∀ args w, (callFunc 103 args).run Tryz.prog w = .ok (.enter 103 args) w := enters_of Tryz.func103 (by kernel_rfl) rfl
 have H3 := Lib.hid h3
 have HS := Lib.hid hs
 have HK := Lib.hid hok
 clear h3 hs hok
 go_enter Tryz.func138, Tryz.ntmps138
 go_wp2_with fail
 go_loopw [8] (fun i wr => ∃ k : Nat, i = .int .i64 k ∧ k ≤ l.length ∧ Below w.heap.size w wr ∧ Hid (badN (l.drop k) k = badN l 0)) (fun i _ => l.length - (intOf i).toNat)
 case atStart => exact ⟨0, rfl, Nat.zero_le _, Below.refl _ _, rfl⟩
 case round =>
  obtain ⟨k, rfl, hk, hb, HG⟩ := hrel
  by_cases hlt : k < l.length
  · obtain ⟨b, o, ha, hb1, hcells⟩ := H3.out (by intro e; rw [e] at hlt; simp at hlt)
    obtain ⟨s, hsk⟩ : ∃ s, l[k]? = some s := ⟨_, List.getElem?_eq_getElem hlt⟩
    have hc : wr.cell? ⟨b, o + k, none⟩ = some (.string s) := (hb.cell (p := ⟨b, o + k, none⟩) (HK.out b hb1)).trans (hcells k s hsk)
    have hsz := HS.out s (List.mem_of_getElem? hsk)
    have NF := Lib.hid (fun w => namedF_calls s hsz w)
    have hlt' : (k : Int) < (l.length : Int) := by omega
    have HB := Lib.hid hb
    have HD : Hid (l.drop k = s :: l.drop (k + 1)) := by
     unfold Hid
     rw [List.drop_eq_getElem_cons hlt]
     rw [List.getElem?_eq_getElem hlt] at hsk
     injection hsk with e; rw [e]
    clear hcells hsk hb
    subst ha
    cases hv : lets (bl s) with
    | true =>
      rw [hv] at NF
      have HG2 : Hid (badN (l.drop (k + 1)) (k + 1) = badN l 0) := by unfold Hid; rw [← HG.out, HD.out, badN, if_pos hv]
      clear hv
      go_wp2_with fail
      refine (NF.out _).mono ?_
      rintro e w1 ⟨rfl, hb2⟩
      replace HB := Lib.hid (HB.out.trans (hb2.mono HB.out.size))
      clear hb2
      go_wp2_with fail
      go_roundw
      case rel => exact ⟨k + 1, by go_num, hlt, HB.out, HG2⟩
      case measure => simp [intOf]; omega
    | false =>
      rw [hv] at NF
      have HG2 : Hid ((k : Int) = badN l 0) := by unfold Hid; rw [← HG.out, HD.out, badN, if_neg (by simp [hv])]
      clear hv
      go_wp2_with fail
      refine (NF.out _).mono ?_
      rintro e w1 ⟨rfl, hb2⟩
      replace HB := Lib.hid (HB.out.trans (hb2.mono HB.out.size))
      clear hb2
      go_wp2_with fail
      go_ret
      exact ⟨ret_i64 HG2.out, HB.out⟩
  · have hge : ¬ (k : Int) < (l.length : Int) := by omega
    have HG2 : Hid (badN l 0 = -1) := by unfold Hid; rw [← HG.out, List.drop_of_length_le (by omega)]; rfl
    have HB := Lib.hid hb
    clear hb
    go_wp2_with fail
    go_ret
    exact ⟨ret_i64 HG2.out.symm, HB.out⟩
theorem containsN_calls (ok : Nat → Prop) (l : List ByteArray) (hl : l.length ≤ 140737488351232) (hs : ∀ s ∈ l, s.size ≤ 140737488351232) (v : Value) (w : World) (h : Strs ok w v l) (hok : ∀ b, ok b → b < w.heap.size) :
 Calls Tryz.prog 102 #[v, .func (.func 103) #[] #[]] w fun e w' => e = .returned (.bool (!namesOk (bls l))) ∧ Below w.heap.size w w' := by
 have IC := Lib.hid (indexN_calls ok l hl hs v w h hok)
 have HE := Lib.hid (badN_all l 0)
 generalize badN l 0 = r at *
 clear h hok hs hl
 go_enter Tryz.func102, Tryz.ntmps102
 go_wp2_with fail
 refine IC.out.mono ?_
 rintro e w1 ⟨rfl, hb1⟩
 go_wp2_with fail
 go_ret
 exact ⟨ret_bool HE.out, hb1⟩
theorem named_calls (ok : Nat → Prop) (l : List ByteArray) (hl : l.length ≤ 140737488351232) (hs : ∀ s ∈ l, s.size ≤ 140737488351232) (v : Value) (w : World) (h : Strs ok w v l) (hok : ∀ b, ok b → b < w.heap.size) :
 Calls Tryz.prog 63 #[v] w fun e w' => e = .returned (.bool (namesOk (bls l))) ∧ Below w.heap.size w w' := by
 have CC := Lib.hid (containsN_calls ok l hl hs v w h hok)
 generalize namesOk (bls l) = r at *
 clear h hok hs hl
 go_enter Tryz.func63, Tryz.ntmps63
 go_wp2_with fail
 refine CC.out.mono ?_
 rintro e w1 ⟨rfl, hb1⟩
 go_wp2_with fail
 go_ret
 exact ⟨ret_bool (by simp), hb1⟩
theorem pre2 (c : UInt8) (l : By) : List.isPrefixOf [c, c] l = match l with | a :: b :: _ => decide (a = c ∧ b = c) | _ => false := by
 match l with
 | [] => rfl
 | [_] => simp [List.isPrefixOf]
 | a :: b :: r =>
   simp only [List.isPrefixOf, Bool.and_true]
   rw [Bool.eq_iff_iff]
   simp
   constructor
   · rintro ⟨h1, h2⟩; exact ⟨h1.symm, h2.symm⟩
   · rintro ⟨h1, h2⟩; exact ⟨h1.symm, h2.symm⟩
theorem index_cut2 (c : UInt8) : ∀ l : By, (cut2 c l = none ∧ index l [c, c] = -1) ∨ (∃ a r, cut2 c l = some (a, r) ∧ index l [c, c] = (a.length : Nat))
 | [] => .inl ⟨rfl, by simp [index]⟩
 | [x] => .inl ⟨rfl, by simp [index, List.isPrefixOf]⟩
 | x :: y :: l => by
   rw [index, pre2]
   unfold cut2
   by_cases h : x = c ∧ y = c
   · right
     exact ⟨[], l, by rw [if_pos h], by simp [h]⟩
   · rw [if_neg h]
     rcases index_cut2 c (y :: l) with ⟨h1, h2⟩ | ⟨a, r, h1, h2⟩
     · left
       rw [h1, h2]
       refine ⟨rfl, ?_⟩
       simp only [decide_eq_true_eq]
       rw [if_neg h]; rfl
     · right
       refine ⟨x :: a, r, by rw [h1]; rfl, ?_⟩
       simp only [decide_eq_true_eq]
       rw [if_neg h, h2, if_neg (by simp)]
       simp
theorem contains_cut2 (c : UInt8) (l : By) : contains l [c, c] = (cut2 c l).isSome := by
 unfold contains
 rcases index_cut2 c l with ⟨h1, h2⟩ | ⟨a, r, h1, h2⟩
 · rw [h1, h2]; rfl
 · rw [h1, h2]; simp
theorem cut_none2 (c : UInt8) (l : By) (h : cut2 c l = none) : cut l [c, c] = (l, [], false) := by
 unfold cut
 rcases index_cut2 c l with ⟨h1, h2⟩ | ⟨a, r, h1, h2⟩
 · rw [h2]; rfl
 · rw [h] at h1; cases h1
theorem cut_some2 (c : UInt8) (l a r : By) (h : cut2 c l = some (a, r)) : cut l [c, c] = (a, r, true) := by
 unfold cut
 rcases index_cut2 c l with ⟨h1, h2⟩ | ⟨a', r', h1, h2⟩
 · rw [h] at h1; cases h1
 · rw [h] at h1
   injection h1 with h1
   injection h1 with h3 h4
   subst h3; subst h4
   obtain ⟨e, -, -⟩ := cut2_some c l a r h
   rw [h2, if_pos (by omega)]
   simp only [Int.toNat_natCast]
   rw [e]
   simp
theorem suffix1 (c : UInt8) (l : By) : hasSuffix l [c] = decide (l.getLast? = some c) := by
 unfold hasSuffix
 rw [Bool.eq_iff_iff, List.isSuffixOf_iff_suffix, decide_eq_true_eq]
 constructor
 · rintro ⟨t, rfl⟩; simp
 · intro h
   obtain ⟨t, rfl⟩ := List.getLast?_eq_some_iff.1 h
   exact ⟨t, rfl⟩
theorem contains_bl (zs : List ByteArray) (x : ByteArray) : containsS zs x = (bls zs).contains (bl x) := by
 rw [Bool.eq_iff_iff, containsS_iff, List.contains_iff_mem]
 unfold bls
 rw [List.mem_map]
 constructor
 · intro h; exact ⟨x, h, rfl⟩
 · rintro ⟨y, hy, he⟩
   have : y = x := by rw [← mkB_bl y, he, mkB_bl]
   rw [← this]; exact hy
theorem indexB_one (s : ByteArray) (c : UInt8) : indexB s ⟨#[c]⟩ = indexByte (bl s) c := index_one (bl s) c
theorem splitB_eq (c : UInt8) : ∀ (k : Nat) (s : ByteArray), countB s ⟨#[c]⟩ = k → (splitB ⟨#[c]⟩ 0 k s).map bl = splitP (· == c) (bl s) := by
 intro k
 induction k with
 | zero =>
   intro s hk
   rw [splitB_zero]
   have hm : indexB s ⟨#[c]⟩ = -1 := by
    rcases indexB_cases s ⟨#[c]⟩ with h | ⟨i, h, -⟩
    · exact h
    · rw [countB_hit s ⟨#[c]⟩ i (Nat.le_refl 1) h] at hk; omega
   rw [indexB_one] at hm
   rw [splitP_self]
   · rfl
   · intro x hx
     obtain ⟨j, hj, he⟩ := List.getElem_of_mem hx
     have := indexByte_none hm j
     rw [List.getElem?_eq_getElem hj, he] at this
     simpa using this
 | succ k ih =>
   intro s hk
   rcases indexB_cases s ⟨#[c]⟩ with h | ⟨i, h, hi⟩
   · rw [countB_miss s _ h] at hk; omega
   · have hc := countB_hit s ⟨#[c]⟩ i (Nat.le_refl 1) h
     rw [splitB_hit _ _ _ _ _ h]
     have h2 := h
     rw [indexB_one] at h2
     obtain ⟨h3, h4⟩ := indexByte_some h2
     have hs1 : (⟨#[c]⟩ : ByteArray).size = 1 := rfl
     rw [hs1] at hc hi ⊢
     rw [List.map_cons, ih _ (by omega)]
     have hl : i < (bl s).length := by simp [bl]; omega
     have e1 : bl (s.extract 0 (i + 0)) = (bl s).take i := by unfold bl; rw [extract_from_zero]; rfl
     have e2 : bl (s.extract (i + 1) s.size) = (bl s).drop (i + 1) := by unfold bl; rw [extract_to_end]
     have e3 : bl s = (bl s).take i ++ c :: (bl s).drop (i + 1) := by
      conv => lhs; rw [← List.take_append_drop i (bl s)]
      rw [List.drop_eq_getElem_cons hl]
      have : (bl s)[i] = c := by
       rw [List.getElem?_eq_getElem hl] at h3
       injection h3
      rw [this]
     rw [e1, e2]
     conv => rhs; rw [e3]
     rw [splitP_cons]
     · intro y hy
       obtain ⟨j, hj, he⟩ := List.getElem_of_mem hy
       rw [List.getElem_take] at he
       have hji : j < i := by simp at hj; omega
       have := h4 j hji
       rw [List.getElem?_eq_getElem (by omega), he] at this
       simpa using this
     · simp
theorem splitB_len (c : UInt8) (s : ByteArray) : (splitB ⟨#[c]⟩ 0 (countB s ⟨#[c]⟩) s).length = countB s ⟨#[c]⟩ + 1 := splitB_all ⟨#[c]⟩ (Nat.le_refl 1) 0 _ s rfl
theorem prefix1 (c : UInt8) (l : By) : hasPrefix l [c] = decide (l.head? = some c) := by
 unfold hasPrefix
 cases l with
 | nil => rfl
 | cons a r => simp only [List.isPrefixOf, Bool.and_true, List.head?_cons, Option.some.injEq]; rw [Bool.eq_iff_iff, beq_iff_eq, decide_eq_true_eq]; exact eq_comm
theorem trim1 (c : UInt8) (l : By) : trimPrefix l [c] = if l.head? = some c then l.drop 1 else l := by
 unfold trimPrefix
 rw [prefix1]
 simp
theorem splitP_le (p : UInt8 → Bool) (l : By) : ∀ x ∈ splitP p l, x.length ≤ l.length := by
 induction l with
 | nil => intro x hx; simp [splitP] at hx; simp [hx]
 | cons a r ih =>
   intro x hx
   unfold splitP at hx
   split at hx
   · rcases List.mem_cons.1 hx with rfl | hx
     · simp
     · have := ih x hx; simp; omega
   · split at hx
     · rename_i h t heq
       rcases List.mem_cons.1 hx with rfl | hx
       · have := ih h (by rw [heq]; simp)
         simp; omega
       · have := ih x (by rw [heq]; simp [hx])
         simp; omega
     · simp at hx; subst hx; simp
theorem splitP_len (p : UInt8 → Bool) (l : By) : (splitP p l).length ≤ l.length + 1 := by
 induction l with
 | nil => simp [splitP]
 | cons a r ih =>
   unfold splitP
   split
   · simp; omega
   · split
     · rename_i h t heq
       rw [heq] at ih
       simp at ih ⊢; omega
     · simp
theorem bl_len (s : ByteArray) : (bl s).length = s.size := by simp [bl]
theorem splitP_size (p : UInt8 → Bool) (s : ByteArray) : (splitP p (bl s)).length ≤ s.size + 1 := by
 have := splitP_len p (bl s)
 rwa [bl_len] at this
theorem bls_mk (l : List By) : bls (l.map mkB) = l := by
 unfold bls
 rw [List.map_map]
 conv => rhs; rw [← List.map_id l]
 apply List.map_congr_left
 intro x _; exact bl_mkB x
theorem mkB_size (l : By) : (mkB l).size = l.length := by simp [mkB, ByteArray.size]
end Go.Proofs.YtepcpgdfbaklfaaGreatDoor
