/-
  The bytes of code points, plain (of XTxd what needs no builder).
-/
/-
  Plain laws on pieces of bytes: a piece that is a code point's is that code point's bytes; code points' bytes are pieces. No program in sight, no condition.
-/
/-
  Plain laws on decoding: the code points of bytes, piece by piece; what is decoded is decoded once for all; two decoded texts together. No program in sight, no condition.
-/
/-
  Plain laws: what was read may be, but for its size. No program in sight, no condition.
-/
/-
  Validity splits at a byte below 128. No program in sight, no condition.
-/
/-
  What is written of a template that may be is valid. No program in sight, no condition.
-/
import Derived.Test.YtdgcdjpjnhlihaaGreatDoorMgLib
import Derived.Lib.MapLaws
import Derived.Lib.ValidLaws
import Derived.Test.YtdgcdjpjnhlihaaGreatDoorMgTs0
set_option linter.unusedVariables false
namespace Go.Proofs.YtdgcdjpjnhlihaaGreatDoor
open Go.RowKit Go.Shelf

def encs (l : List (Nat × Int)) : List UInt8 := l.flatMap fun x => Lib.encodeRune (clp x.2)
def decd (l : List UInt8) : List UInt8 := encs (pts l)
theorem enc_rune_le (r : Int) : 1 ≤ (Lib.encodeRune r).length ∧ (Lib.encodeRune r).length ≤ 4 := by
  have := Lib.runeCells_le r
  rwa [Lib.runeCells_length] at this
end Go.Proofs.YtdgcdjpjnhlihaaGreatDoor
set_option linter.unusedVariables false
namespace Go.Proofs.YtdgcdjpjnhlihaaGreatDoor
open Go.Lib

/-- 'pc' over numbers. -/
def pcN (n b0 b1 b2 b3 : Nat) : Nat × Bool :=
  if b0 < 128 then (1, true) else if b0 < 194 then (1, false)
  else if b0 < 224 then (if 1 < n ∧ 128 ≤ b1 ∧ b1 ≤ 191 then (2, true) else (1, false))
  else if b0 < 240 then (if 1 < n ∧ lof b0 ≤ b1 ∧ b1 ≤ hif b0 then (if 2 < n ∧ 128 ≤ b2 ∧ b2 ≤ 191 then (3, true) else (2, false)) else (1, false))
  else if b0 ≤ 244 then (if 1 < n ∧ lof b0 ≤ b1 ∧ b1 ≤ hif b0 then (if 2 < n ∧ 128 ≤ b2 ∧ b2 ≤ 191 then (if 3 < n ∧ 128 ≤ b3 ∧ b3 ≤ 191 then (4, true) else (3, false)) else (2, false)) else (1, false))
  else (1, false)

theorem pcg1 (lo hi n : Nat) (r : List UInt8) : pcg 1 lo hi r n = if 0 < r.length ∧ lo ≤ (r.getD 0 0).toNat ∧ (r.getD 0 0).toNat ≤ hi then (n + 1, true) else (n, false) := by
  match r with
  | [] => simp [pcg]
  | x :: r => simp [pcg]
theorem pcgS (k lo hi n : Nat) (r : List UInt8) : pcg (k + 1) lo hi r n = if 0 < r.length ∧ lo ≤ (r.getD 0 0).toNat ∧ (r.getD 0 0).toNat ≤ hi then pcg k 128 191 (r.drop 1) (n + 1) else (n, false) := by
  match r with
  | [] => simp [pcg]
  | x :: r => simp [pcg]

theorem pc_N (l : List UInt8) (h : l ≠ []) : pc l = pcN l.length (l.getD 0 0).toNat (l.getD 1 0).toNat (l.getD 2 0).toNat (l.getD 3 0).toNat := by
  match l, h with
  | c :: r, _ =>
    have e : pc (c :: r) = if okf c.toNat then pcg (nd c.toNat) (lof c.toNat) (hif c.toNat) r 1 else (1, false) := rfl
    rw [e]
    have g0 : (c :: r).getD 0 0 = c := rfl
    have g1 : (c :: r).getD 1 0 = r.getD 0 0 := rfl
    have g2 : (c :: r).getD 2 0 = (r.drop 1).getD 0 0 := by simp [List.getD]
    have g3 : (c :: r).getD 3 0 = (r.drop 2).getD 0 0 := by simp [List.getD]
    rw [g0, g1, g2, g3]
    have hl1 : (c :: r).length = r.length + 1 := rfl
    have hl2 : (r.drop 1).length = r.length - 1 := by simp
    have hl3 : (r.drop 2).length = r.length - 2 := by simp
    rw [hl1]
    generalize c.toNat = b0
    unfold pcN okf
    by_cases c0 : b0 < 128
    · have : nd b0 = 0 := by unfold nd; rw [if_pos (by omega)]
      rw [if_pos c0, this]; simp [pcg, c0]
    rw [if_neg c0]
    by_cases c1 : b0 < 194
    · rw [if_pos c1, if_neg (by simp; omega)]
    rw [if_neg c1]
    by_cases c2 : b0 < 224
    · have h1 : nd b0 = 1 := by unfold nd; rw [if_neg c1, if_pos c2]
      have h2 : lof b0 = 128 := by unfold lof; rw [if_neg (by omega), if_neg (by omega)]
      have h3 : hif b0 = 191 := by unfold hif; rw [if_neg (by omega), if_neg (by omega)]
      rw [if_pos c2, if_pos (by simp; omega), h1, h2, h3, pcg1]
      simp only [Nat.lt_add_left_iff_pos]
    rw [if_neg c2]
    by_cases c3 : b0 < 240
    · have h1 : nd b0 = 2 := by unfold nd; rw [if_neg c1, if_neg c2, if_pos c3]
      rw [if_pos c3, if_pos (by simp; omega), h1, pcgS, pcg1, hl2]
      simp only [Nat.lt_add_left_iff_pos, show (0 < r.length - 1) = (2 < r.length + 1) from propext (by omega)]
    rw [if_neg c3]
    by_cases c4 : b0 ≤ 244
    · have h1 : nd b0 = 3 := by unfold nd; rw [if_neg c1, if_neg c2, if_neg c3, if_pos c4]
      rw [if_pos c4, if_pos (by simp; omega), h1, pcgS, pcgS, pcg1, List.drop_drop, hl2, hl3]
      simp only [Nat.lt_add_left_iff_pos, show (0 < r.length - 1) = (2 < r.length + 1) from propext (by omega), show (0 < r.length - 2) = (3 < r.length + 1) from propext (by omega)]
    · rw [if_neg c4, if_neg (by simp; omega)]

set_option maxHeartbeats 4000000 in
theorem pcN_no (n b0 b1 b2 b3 : Nat) (h0 : b0 < 256) (h1 : b1 < 256) (h2 : b2 < 256) (h3 : b3 < 256) (h : (pcN n b0 b1 b2 b3).2 = false) : decodeN n b0 b1 b2 b3 = (65533, 1) := by
  unfold pcN lof hif at h
  rcases decodeN_shape n b0 b1 b2 b3 with ⟨c, e⟩ | ⟨c1, c2, c3, cv, e⟩ | ⟨c1, c2, c3, c4, cv, cs, e⟩ | ⟨c1, c2, c3, c4, c5, cv, cw, e⟩ | e
  · rw [if_pos c] at h; cases h
  · exfalso
    rw [if_neg (by omega), if_neg (by omega), if_pos (by omega), if_pos (by omega)] at h; cases h
  · exfalso
    rw [if_neg (by omega), if_neg (by omega), if_neg (by omega), if_pos (by omega), if_pos (by (repeat' split) <;> omega), if_pos (by omega)] at h; cases h
  · exfalso
    rw [if_neg (by omega), if_neg (by omega), if_neg (by omega), if_neg (by omega), if_pos (by omega), if_pos (by (repeat' split) <;> omega), if_pos (by omega), if_pos (by omega)] at h; cases h
  · exact e
/-- A code point. -/
def Sc (r : Int) : Prop := 0 ≤ r ∧ r ≤ 1114111 ∧ ¬ (55296 ≤ r ∧ r ≤ 57343)
set_option maxHeartbeats 4000000 in
theorem pcN_yes (n b0 b1 b2 b3 : Nat) (h0 : b0 < 256) (h1 : b1 < 256) (h2 : b2 < 256) (h3 : b3 < 256) (h : (pcN n b0 b1 b2 b3).2 = true) : decodeN n b0 b1 b2 b3 ≠ (65533, 1) ∧ (decodeN n b0 b1 b2 b3).2 = (pcN n b0 b1 b2 b3).1 ∧ Sc (decodeN n b0 b1 b2 b3).1 := by
  unfold pcN at h ⊢
  unfold decodeN Sc
  by_cases c0 : b0 < 128
  · rw [if_pos c0, if_pos c0]; refine ⟨fun e => ?_, rfl, ?_⟩
    · have := congrArg Prod.fst e; simp at this; omega
    · dsimp only; omega
  rw [if_neg c0] at h ⊢
  by_cases c1 : b0 < 194
  · rw [if_pos c1] at h; cases h
  rw [if_neg c1] at h ⊢
  by_cases c2 : b0 < 224
  · rw [if_pos c2] at h ⊢
    split at h
    · rename_i c
      rw [if_neg c0, if_pos c, if_pos (by omega), if_pos (by omega)]
      refine ⟨fun e => ?_, rfl, ?_⟩
      · have := congrArg Prod.snd e; simp at this
      · dsimp only; omega
    · cases h
  rw [if_neg c2] at h ⊢
  by_cases c3 : b0 < 240
  · rw [if_pos c3] at h ⊢
    split at h
    · rename_i c
      rw [if_pos c]
      split at h
      · rename_i d
        have hx : (2048 ≤ b0 % 16 * 4096 + b1 % 64 * 64 + b2 % 64 ∧ (b0 % 16 * 4096 + b1 % 64 * 64 + b2 % 64 < 55296 ∨ (57344 ≤ b0 % 16 * 4096 + b1 % 64 * 64 + b2 % 64 ∧ b0 % 16 * 4096 + b1 % 64 * 64 + b2 % 64 ≤ 1114111))) ∧ b1 / 64 = 2 := by
          obtain ⟨_, c4, c5⟩ := c
          unfold lof at c4; unfold hif at c5
          split at c4 <;> split at c5 <;> (try split at c4) <;> (try split at c5) <;> omega
        rw [if_neg c0, if_pos d, if_neg (by omega), if_pos (by omega), if_pos (by omega)]
        refine ⟨fun e => ?_, rfl, ?_⟩
        · have := congrArg Prod.snd e; simp at this
        · dsimp only; omega
      · cases h
    · cases h
  rw [if_neg c3] at h ⊢
  by_cases c4 : b0 ≤ 244
  · rw [if_pos c4] at h ⊢
    split at h
    · rename_i c
      rw [if_pos c]
      split at h
      · rename_i d
        rw [if_pos d]
        split at h
        · rename_i f
          have hx : (65536 ≤ b0 % 8 * 262144 + b1 % 64 * 4096 + b2 % 64 * 64 + b3 % 64 ∧ b0 % 8 * 262144 + b1 % 64 * 4096 + b2 % 64 * 64 + b3 % 64 ≤ 1114111) ∧ b1 / 64 = 2 := by
            obtain ⟨_, c4, c5⟩ := c
            unfold lof at c4; unfold hif at c5
            split at c4 <;> split at c5 <;> (try split at c4) <;> (try split at c5) <;> omega
          rw [if_neg c0, if_pos f, if_neg (by omega), if_neg (by omega), if_pos (by omega), if_pos (by omega)]
          refine ⟨fun e => ?_, rfl, ?_⟩
          · have := congrArg Prod.snd e; simp at this
          · dsimp only; omega
        · cases h
      · cases h
    · cases h
  · rw [if_neg c4] at h; cases h
end Go.Proofs.YtdgcdjpjnhlihaaGreatDoor
set_option linter.unusedVariables false
namespace Go.Proofs.YtdgcdjpjnhlihaaGreatDoor
open Go.Lib

theorem decodeGo_L (l : List UInt8) (h : l ≠ []) : decodeGo ⟨l.toArray⟩ = decodeL l := by
  unfold decodeGo decodeL
  rw [if_neg]
  intro e
  exact h (List.length_eq_zero_iff.1 e)
/-- A piece that is a code point's. -/
theorem pc_yes (l : List UInt8) (h : l ≠ []) (hp : (pc l).2 = true) : Sc (rn l) ∧ encodeRune (rn l) = l.take (pc l).1 := by
  have hN := pc_N l h
  rw [hN] at hp
  obtain ⟨h1, h2, h3⟩ := pcN_yes _ _ _ _ _ (l.getD 0 0).toNat_lt (l.getD 1 0).toNat_lt (l.getD 2 0).toNat_lt (l.getD 3 0).toNat_lt hp
  rw [← hN] at hp h2
  rw [← decodeL_N] at h1 h2 h3
  have hr : rn l = ((decodeL l).1 : Int) := by unfold rn; rw [if_pos hp, decodeGo_L l h]
  rw [hr]
  refine ⟨h3, ?_⟩
  rw [encode_decode l h (fun e => h1 (Prod.ext e.1 e.2)), h2]
theorem pc_no (l : List UInt8) (h : l ≠ []) (hp : (pc l).2 = false) : rn l = 65533 ∧ decodeL l = (65533, 1) := by
  have hN := pc_N l h
  refine ⟨by unfold rn; rw [hp]; rfl, ?_⟩
  rw [hN] at hp
  rw [decodeL_N]
  exact pcN_no _ _ _ _ _ (l.getD 0 0).toNat_lt (l.getD 1 0).toNat_lt (l.getD 2 0).toNat_lt (l.getD 3 0).toNat_lt hp
theorem rn_sc (l : List UInt8) (h : l ≠ []) : Sc (rn l) := by
  cases hp : (pc l).2 with
  | true => exact (pc_yes l h hp).1
  | false => rw [(pc_no l h hp).1]; unfold Sc; omega

/-- Code points' bytes are pieces. -/
theorem byte_toNat (z : Int) (h0 : 0 ≤ z) (h1 : z < 256) : (z.toNat.toUInt8).toNat = z.toNat := by
  have : z.toNat < 256 := by omega
  simp [Nat.toUInt8, UInt8.toNat_ofNat']; omega
set_option maxHeartbeats 2000000 in
theorem pc_enc (r : Int) (h : Sc r) (t : List UInt8) : pc (encodeRune r ++ t) = ((encodeRune r).length, true) ∧ rn (encodeRune r ++ t) = r := by
  obtain ⟨h0, h1, h2⟩ := h
  have key : ∀ l : List UInt8, l ≠ [] → (pc l).2 = true → rn l = ((decodeN l.length (l.getD 0 0).toNat (l.getD 1 0).toNat (l.getD 2 0).toNat (l.getD 3 0).toNat).1 : Int) := by
    intro l hl hp
    unfold rn; rw [if_pos hp, decodeGo_L l hl, decodeL_N]
  unfold encodeRune
  by_cases a1 : r ≤ 127
  · rw [encodeRuneZ_one h0 a1]
    simp only [List.map_cons, List.map_nil, List.cons_append, List.nil_append, List.length_cons, List.length_nil]
    have hb := byte_toNat r h0 (by omega)
    generalize r.toNat.toUInt8 = c at *
    have hp : pc (c :: t) = (1, true) := by rw [pc_N _ (by simp)]; unfold pcN; rw [if_pos]; show c.toNat < 128; omega
    refine ⟨hp, ?_⟩
    rw [key _ (by simp) (by rw [hp])]
    unfold decodeN
    rw [if_pos (by show c.toNat < 128; omega)]
    show ((c.toNat : Nat) : Int) = r; omega
  by_cases a2 : r ≤ 2047
  · rw [encodeRuneZ_two (by omega) a2]
    simp only [List.map_cons, List.map_nil, List.cons_append, List.nil_append, List.length_cons, List.length_nil]
    have hb := byte_toNat (192 + r / 64) (by omega) (by omega)
    have hc := byte_toNat (128 + r % 64) (by omega) (by omega)
    generalize (192 + r / 64).toNat.toUInt8 = b at *
    generalize (128 + r % 64).toNat.toUInt8 = c at *
    have hp : pc (b :: c :: t) = (2, true) := by
      rw [pc_N _ (by simp)]
      show pcN (t.length + 2) b.toNat c.toNat _ _ = _
      unfold pcN
      rw [if_neg (by omega), if_neg (by omega), if_pos (by omega), if_pos (by omega)]
    refine ⟨hp, ?_⟩
    rw [key _ (by simp) (by rw [hp])]
    show ((decodeN (t.length + 2) b.toNat c.toNat _ _).1 : Int) = r
    unfold decodeN
    rw [if_neg (by omega), if_pos (by omega), if_pos (by omega)]
    dsimp only; omega
  by_cases a3 : r ≤ 65535
  · rw [encodeRuneZ_three (by omega)]
    simp only [List.map_cons, List.map_nil, List.cons_append, List.nil_append, List.length_cons, List.length_nil]
    have hb := byte_toNat (224 + r / 4096) (by omega) (by omega)
    have hc := byte_toNat (128 + r / 64 % 64) (by omega) (by omega)
    have hd := byte_toNat (128 + r % 64) (by omega) (by omega)
    generalize (224 + r / 4096).toNat.toUInt8 = b at *
    generalize (128 + r / 64 % 64).toNat.toUInt8 = c at *
    generalize (128 + r % 64).toNat.toUInt8 = d at *
    have hp : pc (b :: c :: d :: t) = (3, true) := by
      rw [pc_N _ (by simp)]
      show pcN (t.length + 3) b.toNat c.toNat d.toNat _ = _
      unfold pcN
      rw [if_neg (by omega), if_neg (by omega), if_neg (by omega), if_pos (by omega), if_pos (by unfold lof hif; (repeat' split) <;> omega), if_pos (by omega)]
    refine ⟨hp, ?_⟩
    rw [key _ (by simp) (by rw [hp])]
    show ((decodeN (t.length + 3) b.toNat c.toNat d.toNat _).1 : Int) = r
    unfold decodeN
    rw [if_neg (by omega), if_neg (by omega), if_pos (by omega), if_pos (by omega)]
    dsimp only; omega
  · rw [encodeRuneZ_four (by omega) (by omega)]
    simp only [List.map_cons, List.map_nil, List.cons_append, List.nil_append, List.length_cons, List.length_nil]
    have hb := byte_toNat (240 + r / 262144) (by omega) (by omega)
    have hc := byte_toNat (128 + r / 4096 % 64) (by omega) (by omega)
    have hd := byte_toNat (128 + r / 64 % 64) (by omega) (by omega)
    have he := byte_toNat (128 + r % 64) (by omega) (by omega)
    generalize (240 + r / 262144).toNat.toUInt8 = b at *
    generalize (128 + r / 4096 % 64).toNat.toUInt8 = c at *
    generalize (128 + r / 64 % 64).toNat.toUInt8 = d at *
    generalize (128 + r % 64).toNat.toUInt8 = e at *
    have hp : pc (b :: c :: d :: e :: t) = (4, true) := by
      rw [pc_N _ (by simp)]
      show pcN (t.length + 4) b.toNat c.toNat d.toNat e.toNat = _
      unfold pcN
      rw [if_neg (by omega), if_neg (by omega), if_neg (by omega), if_neg (by omega), if_pos (by omega), if_pos (by unfold lof hif; (repeat' split) <;> omega), if_pos (by omega), if_pos (by omega)]
    refine ⟨hp, ?_⟩
    rw [key _ (by simp) (by rw [hp])]
    show ((decodeN (t.length + 4) b.toNat c.toNat d.toNat e.toNat).1 : Int) = r
    unfold decodeN
    rw [if_neg (by omega), if_neg (by omega), if_neg (by omega), if_pos (by omega), if_pos (by omega)]
    dsimp only; omega

/-- The code points of bytes, piece by piece. -/
def rnsF : Nat → List UInt8 → List Int
  | 0, _ => []
  | f + 1, l => if l = [] then [] else rn l :: rnsF f (l.drop (pc l).1)
def rns (l : List UInt8) : List Int := rnsF l.length l
theorem rnsF_nil (f : Nat) : rnsF f [] = [] := by cases f <;> rfl
theorem rns_nil : rns [] = [] := rfl
theorem rnsF_fuel (f g : Nat) (l : List UInt8) (hf : l.length ≤ f) (hg : l.length ≤ g) : rnsF f l = rnsF g l := by
  induction f generalizing g l with
  | zero =>
    have : l = [] := List.length_eq_zero_iff.1 (by omega)
    subst this; rw [rnsF_nil, rnsF_nil]
  | succ f ih =>
    by_cases hl : l = []
    · subst hl; rw [rnsF_nil, rnsF_nil]
    · have := pc_range l hl
      match g, hg with
      | 0, hg => exact absurd (List.length_eq_zero_iff.1 (by omega)) hl
      | g + 1, hg =>
        rw [rnsF, rnsF, if_neg hl, if_neg hl, ih g _ (by simp; omega) (by simp; omega)]
theorem rns_step (l : List UInt8) (h : l ≠ []) : rns l = rn l :: rns (l.drop (pc l).1) := by
  have hr := pc_range l h
  obtain ⟨f, hf⟩ : ∃ f, l.length = f + 1 := ⟨l.length - 1, by omega⟩
  unfold rns
  conv => lhs; rw [hf, rnsF, if_neg h]
  rw [rnsF_fuel f _ _ (by simp; omega) (Nat.le_refl _)]
theorem ptsF_map (f k : Nat) (l : List UInt8) : (ptsF f k l).map (fun x => clp x.2) = rnsF f l := by
  induction f generalizing k l with
  | zero => rfl
  | succ f ih =>
    unfold ptsF rnsF
    split
    · rfl
    · rw [List.map_cons, ih, clp_rn]
theorem pts_map (l : List UInt8) : (pts l).map (fun x => clp x.2) = rns l := ptsF_map _ _ _
/-- The bytes of code points. -/
def encR (l : List Int) : List UInt8 := l.flatMap encodeRune
theorem decd_rns (l : List UInt8) : decd l = encR (rns l) := by
  rw [← pts_map]; unfold decd encs encR; rw [List.flatMap_map]
theorem encR_cons (r : Int) (b : List Int) : encR (r :: b) = encodeRune r ++ encR b := rfl
/-- An induction over pieces. -/
theorem pc_ind {P : List UInt8 → Prop} (h0 : P []) (h1 : ∀ l, l ≠ [] → P (l.drop (pc l).1) → P l) (l : List UInt8) : P l := by
  obtain ⟨n, hn⟩ : ∃ n, l.length ≤ n := ⟨_, Nat.le_refl _⟩
  induction n generalizing l with
  | zero => rw [List.length_eq_zero_iff.1 (by omega : l.length = 0)]; exact h0
  | succ n ih =>
    by_cases hl : l = []
    · rw [hl]; exact h0
    · have := pc_range l hl
      exact h1 l hl (ih _ (by simp; omega))
theorem rns_sc (l : List UInt8) : ∀ r ∈ rns l, Sc r := by
  refine pc_ind (P := fun l => ∀ r ∈ rns l, Sc r) (by simp [rns_nil]) ?_ l
  intro l hl ih r hr
  rw [rns_step l hl] at hr
  rcases List.mem_cons.1 hr with rfl | hr
  · exact rn_sc l hl
  · exact ih r hr
theorem enc_ne (r : Int) : encodeRune r ≠ [] := by
  intro e; have := enc_rune_le r; rw [e] at this; simp at this
theorem rns_enc (rs : List Int) (h : ∀ r ∈ rs, Sc r) (t : List UInt8) : rns (encR rs ++ t) = rs ++ rns t := by
  induction rs with
  | nil => rfl
  | cons r rs ih =>
    obtain ⟨h1, h2⟩ := pc_enc r (h r (by simp)) (encR rs ++ t)
    rw [encR_cons, List.append_assoc, rns_step _ (by simp [enc_ne]), h1, h2, List.drop_left' rfl, ih (fun r hr => h r (by simp [hr]))]
    rfl
theorem rns_encR (rs : List Int) (h : ∀ r ∈ rs, Sc r) : rns (encR rs) = rs := by
  have := rns_enc rs h []
  rwa [List.append_nil, rns_nil, List.append_nil] at this
theorem decd_encR (rs : List Int) (h : ∀ r ∈ rs, Sc r) : decd (encR rs) = encR rs := by rw [decd_rns, rns_encR rs h]
/-- Valid is what is decoded to itself. -/
theorem valid_decd (l : List UInt8) : validD l = true ↔ decd l = l := by
  refine pc_ind (P := fun l => validD l = true ↔ decd l = l) (by constructor <;> intro _ <;> rfl) ?_ l
  intro l hl ih
  rw [validD_step l hl, decd_rns, rns_step l hl, encR_cons, ← decd_rns]
  cases hp : (pc l).2 with
  | true =>
    obtain ⟨h1, h2⟩ := pc_yes l hl hp
    have hN := pc_N l hl
    have hp' := hp
    rw [hN] at hp'
    obtain ⟨g1, g2, g3⟩ := pcN_yes _ _ _ _ _ (l.getD 0 0).toNat_lt (l.getD 1 0).toNat_lt (l.getD 2 0).toNat_lt (l.getD 3 0).toNat_lt hp'
    rw [← hN] at g2
    rw [← decodeL_N] at g1 g2
    rw [if_neg (fun e => g1 (Prod.ext e.1 e.2)), h2, g2, ih]
    constructor
    · intro h; rw [h, List.take_append_drop]
    · intro h
      have := congrArg (List.drop (pc l).1) h
      rwa [List.drop_left' (by have := pc_range l hl; simp; omega)] at this
  | false =>
    obtain ⟨h1, h2⟩ := pc_no l hl hp
    rw [h2, if_pos ⟨rfl, rfl⟩, h1]
    constructor
    · intro h; cases h
    · intro h
      exfalso
      have e1 : encodeRune 65533 = [239, 191, 189] := by decide
      rw [e1] at h
      have hy := (pc_enc 65533 (by unfold Sc; omega) (decd (l.drop (pc l).1))).1
      rw [e1, h] at hy
      rw [hy] at hp; cases hp
theorem valid_of_encR (rs : List Int) (h : ∀ r ∈ rs, Sc r) : validD (encR rs) = true := (valid_decd _).2 (decd_encR rs h)
end Go.Proofs.YtdgcdjpjnhlihaaGreatDoor
set_option linter.unusedVariables false
namespace Go.Proofs.YtdgcdjpjnhlihaaGreatDoor

/-- The names that parts call are among these. -/
def Pt.cin (cs : List By) : Pt → Prop
  | .nil => True
  | .cons h k e r => (h.kind = 5 → bl h.name ∈ cs) ∧ k.cin cs ∧ e.cin cs ∧ r.cin cs
theorem Pt.cin_app (cs : List By) (x y : Pt) (hx : x.cin cs) (hy : y.cin cs) : (x.app y).cin cs := by
  induction x with
  | nil => exact hy
  | cons h k e r _ _ ih => exact ⟨hx.1, hx.2.1, hx.2.2.1, ih hx.2.2.2⟩
theorem Pt.cin_mono (cs ds : List By) (h : ∀ n ∈ cs, n ∈ ds) (x : Pt) (hx : x.cin cs) : x.cin ds := by
  induction x with
  | nil => trivial
  | cons a k e r ihk ihe ih => exact ⟨fun h5 => h _ (hx.1 h5), ihk hx.2.1, ihe hx.2.2.1, ih hx.2.2.2⟩
theorem Pt.cin_called (cs : List By) (defs : List Df) (h : ∀ n ∈ cs, hasDef defs n = true) (x : Pt) (hx : x.cin cs) : x.called defs = true := by
  induction x with
  | nil => rfl
  | cons a k e r ihk ihe ih =>
    simp only [Pt.called, Bool.and_eq_true, Bool.or_eq_true, decide_eq_true_eq]
    refine ⟨⟨⟨?_, ihk hx.2.1⟩, ihe hx.2.2.1⟩, ih hx.2.2.2⟩
    by_cases h5 : a.kind = 5
    · exact .inr (h _ (hx.1 h5))
    · exact .inl h5
theorem Pt.form_app (free : Bool) (x y : Pt) (hx : x.form false = true) (hy : y.form free = true) : (x.app y).form free = true := by
  induction x with
  | nil => exact hy
  | cons h k e r _ _ ih =>
    simp only [Pt.form, Pt.app, Bool.and_eq_true, Bool.false_and] at hx ⊢
    refine ⟨⟨?_, hx.1.2⟩, ih hx.2⟩
    have hw : ∀ (q : Bool), hdOk h k e false = true → hdOk h k e q = true := by
      intro q hq
      unfold hdOk at hq ⊢
      split
      · rename_i h1
        rw [if_pos h1] at hq
        have : mayB (bl h.text) false = true → mayB (bl h.text) q = true := by
          intro hm
          unfold mayB at hm ⊢
          simp only [Bool.and_eq_true, Bool.false_or, Bool.or_eq_true] at hm ⊢
          exact ⟨hm.1, .inr hm.2⟩
        simp only [Bool.and_eq_true] at hq ⊢
        exact ⟨⟨⟨⟨⟨this hq.1.1.1.1.1, hq.1.1.1.1.2⟩, hq.1.1.1.2⟩, hq.1.1.2⟩, hq.1.2⟩, hq.2⟩
      · rename_i h1
        rw [if_neg h1] at hq
        exact hq
    exact hw _ hx.1.1
theorem Pt.deep_app (x y : Pt) : (x.app y).deep = max x.deep y.deep := by
  induction x with
  | nil => simp [Pt.app, Pt.deep]
  | cons h k e r _ _ ih => simp only [Pt.app, Pt.deep, ih]; omega

theorem Pt.form_mono (fr : Bool) (x : Pt) (hx : x.form false = true) : x.form fr = true := by
  have := Pt.form_app fr x .nil hx rfl
  rwa [Pt.app_nil] at this
/-- Parts that are being read, at a depth. -/
structure FrOk (fr : Bool) (cs : List By) (lv : Nat) (f : Fr) : Prop where
  kids : f.kids.form fr = true
  fst : f.fst.form false = true
  dk : f.kids.deep + lv ≤ 64
  df : f.fst.deep + lv ≤ 64
  ck : f.kids.cin cs
  cf : f.fst.cin cs
  nm : namesOk f.names = true
theorem FrOk.mono {fr : Bool} {cs ds : List By} {lv : Nat} {f : Fr} (h : FrOk fr cs lv f) (hm : ∀ n ∈ cs, n ∈ ds) : FrOk fr ds lv f :=
  { h with ck := Pt.cin_mono _ _ hm _ h.ck, cf := Pt.cin_mono _ _ hm _ h.cf }
theorem FrOk.put {fr : Bool} {cs : List By} {lv : Nat} {f : Fr} {h : Hd} {k e : Pt} (hf : FrOk false cs lv f) (h1 : (Pt.one h k e).form fr = true) (h2 : (Pt.one h k e).deep + lv ≤ 64) (h3 : (Pt.one h k e).cin cs) :
    FrOk fr cs lv { f with kids := f.kids.app (.one h k e) } :=
  ⟨Pt.form_app fr _ _ hf.kids h1, hf.fst, by show (f.kids.app (.one h k e)).deep + lv ≤ 64; rw [Pt.deep_app]; have := hf.dk; omega, hf.df, Pt.cin_app _ _ _ hf.ck h3, hf.cf, hf.nm⟩
/-- The frames: the top one, those around it. -/
def FrsOk (fr : Bool) (cs : List By) (defs : List Df) : Fr → List Fr → Prop
  | f, [] => f.kind = 0 ∧ FrOk fr cs 0 f
  | f, g :: r => FrOk fr cs (r.length + 1) f ∧ (f.kind = 3 ∨ f.kind = 4 ∨ (f.kind = 6 ∧ r = [] ∧ nameOk f.name = true ∧ hasDef defs f.name = false)) ∧ FrsOk false cs defs g r
theorem FrsOk.top {fr : Bool} {cs : List By} {defs : List Df} {f : Fr} {l : List Fr} (h : FrsOk fr cs defs f l) : FrOk fr cs l.length f := by
  cases l with
  | nil => exact h.2
  | cons g r => exact h.1
theorem FrsOk.turn {fr fr' : Bool} {cs : List By} {defs : List Df} {f f' : Fr} {l : List Fr} (h : FrsOk fr cs defs f l) (h1 : f'.kind = f.kind) (h2 : f'.name = f.name) (h3 : FrOk fr' cs l.length f') : FrsOk fr' cs defs f' l := by
  cases l with
  | nil => exact ⟨h1.trans h.1, h3⟩
  | cons g r => exact ⟨h3, by rw [h1, h2]; exact h.2.1, h.2.2⟩
theorem FrsOk.mono {fr : Bool} {cs ds : List By} {defs : List Df} (hm : ∀ n ∈ cs, n ∈ ds) : ∀ {l : List Fr} {f : Fr}, FrsOk fr cs defs f l → FrsOk fr ds defs f l := by
  intro l
  induction l generalizing fr with
  | nil => intro f h; exact ⟨h.1, h.2.mono hm⟩
  | cons g r ih => intro f h; exact ⟨h.1.mono hm, h.2.1, ih h.2.2⟩
/-- A reader whose parts may be. -/
structure StOk (fr : Bool) (s : St) : Prop where
  frs : FrsOk fr (s.calls.map Prod.fst) s.defs s.top s.rest
  defs : ∀ d ∈ s.defs, nameOk (bl d.name) = true ∧ d.kids.form false = true ∧ 1 + d.kids.deep ≤ 64 ∧ d.kids.cin (s.calls.map Prod.fst)
  tw : twice (s.defs.map fun d => bl d.name) = false
theorem StOk.start : StOk false St.start := ⟨⟨rfl, rfl, rfl, by decide, by decide, trivial, trivial, rfl⟩, (fun d h => by cases h), rfl⟩
theorem StOk.many {fr : Bool} {s : St} (h : StOk fr s) (m : Nat) : StOk fr { s with many := m } := ⟨h.frs, h.defs, h.tw⟩
theorem StOk.count {fr : Bool} {s s' : St} {at_ : Nat} (h : StOk fr s) (e : s.count at_ = .ok s') : StOk fr s' := by
  unfold St.count at e
  split at e
  · cases e
  · cases e; exact h.many _
theorem StOk.put {fr : Bool} {s : St} {hd : Hd} {k e : Pt} (h : StOk false s) (h1 : (Pt.one hd k e).form fr = true) (h2 : (Pt.one hd k e).deep + s.rest.length ≤ 64) (h3 : (Pt.one hd k e).cin (s.calls.map Prod.fst)) : StOk fr (s.put hd k e) :=
  ⟨h.frs.turn rfl rfl (h.frs.top.put h1 h2 h3), h.defs, h.tw⟩
theorem twice_snoc (l : List By) (n : By) (h : twice l = false) (hn : l.contains n = false) : twice (l ++ [n]) = false := by
  induction l with
  | nil => rfl
  | cons a l ih =>
    simp only [twice, List.cons_append, Bool.or_eq_false_iff] at h ⊢
    simp only [List.contains_cons, Bool.or_eq_false_iff] at hn
    refine ⟨?_, ih h.2 hn.2⟩
    rw [List.contains_eq_any_beq, List.any_append, Bool.or_eq_false_iff, ← List.contains_eq_any_beq]
    refine ⟨h.1, ?_⟩
    have := hn.1
    simp only [List.any_cons, List.any_nil, Bool.or_false]
    rw [Bool.eq_false_iff] at this ⊢
    intro e
    apply this
    simpa using (beq_iff_eq.1 e).symm
theorem bls_mk' (l : List By) : bls (l.map mkB) = l := by
  unfold bls; rw [List.map_map]
  conv => rhs; rw [← List.map_id l]
  apply List.map_congr_left
  intro x _; exact bl_mkB x
theorem one_way (k pos : Nat) (root : Bool) (l : List By) (a b : Pt) (hk : k = 3 ∨ k = 4) (hl : namesOk l = true) (ha : a.form false = true) (hb : b.form false = true) (fr : Bool) : (Pt.one (hdWay k pos root l) a b).form fr = true := by
  have h1 : ¬ k = 1 := by omega
  have h2 : ¬ k = 2 := by omega
  simp only [Pt.one, Pt.form, hdOk, hdWay, if_neg h1, if_neg h2, if_pos hk, bls_mk', hl, ha, hb]
  rfl
theorem one_hole (pos : Nat) (root : Bool) (l : List By) (hl : namesOk l = true) (fr : Bool) : (Pt.one (hdHole pos root l) .nil .nil).form fr = true := by
  simp only [Pt.one, Pt.form, hdOk, hdHole, bls_mk', hl]
  rfl
theorem one_call (pos : Nat) (name : By) (root : Bool) (l : List By) (hn : nameOk name = true) (hl : namesOk l = true) (fr : Bool) : (Pt.one (hdCall pos name root l) .nil .nil).form fr = true := by
  simp only [Pt.one, Pt.form, hdOk, hdCall, bls_mk', hl, bl_mkB, hn]
  rfl
theorem one_text (pos : Nat) (x : By) (fr : Bool) (h : mayB x fr = true) : (Pt.one (hdText pos x) .nil .nil).form fr = true := by
  simp only [Pt.one, Pt.form, hdOk, hdText, bl_mkB, Pt.isNil, Bool.and_true, h]
  rfl
theorem wayT_names (root : Bool) (w : By) (p : Bool × List By) (h : wayT root w = some p) : namesOk p.2 = true := by
  unfold wayT at h
  split at h
  · split at h
    · cases h; assumption
    · cases h
  · cases h
theorem wayB_names (w : By) (p : Bool × List By) (h : wayB w = some p) : namesOk p.2 = true := by
  unfold wayB at h
  split at h
  · cases h; rfl
  · cases h; rfl
  · exact wayT_names _ _ _ h
  · exact wayT_names _ _ _ h
theorem Rs.bind_eq_ok {α β : Type} {x : Rs α} {f : α → Rs β} {b : β} (h : x.bind f = .ok b) : ∃ a, x = .ok a ∧ f a = .ok b := by
  cases x with
  | ok a => exact ⟨a, rfl, h⟩
  | err e i => cases h
theorem StOk.rl {fr : Bool} {s : St} (h : StOk fr s) : s.rest.length ≤ 64 := by have := h.frs.top.dk; omega
theorem one_deep (hd : Hd) (h : hd.kind ≠ 3 ∧ hd.kind ≠ 4) : (Pt.one hd .nil .nil).deep = 0 := by
  simp only [Pt.one, Pt.deep]
  rw [if_neg (by omega)]; rfl
theorem StOk.add {fr : Bool} {s s' : St} {hd : Hd} {at_ : Nat} (h : StOk false s) (h1 : (Pt.one hd .nil .nil).form fr = true) (hk : hd.kind ≠ 3 ∧ hd.kind ≠ 4) (h5 : hd.kind ≠ 5) (e : s.add hd at_ = .ok s') : StOk fr s' := by
  unfold St.add at e
  obtain ⟨t, ht, e⟩ := Rs.bind_eq_ok e
  cases e
  have h2 := h.count ht
  refine h2.put h1 ?_ ⟨fun e => absurd e h5, trivial, trivial, trivial⟩
  rw [one_deep hd hk]
  have := h2.rl; omega
theorem StOk.begin {s s' : St} {f : Fr} {at_ : Nat} (h : StOk false s) (hk : f.kind = 3 ∨ f.kind = 4 ∨ (f.kind = 6 ∧ s.rest = [] ∧ nameOk f.name = true ∧ hasDef s.defs f.name = false)) (h1 : f.fst = .nil) (h2 : f.kids = .nil) (hn : namesOk f.names = true) (e : s.begin f at_ = .ok s') : StOk false s' := by
  unfold St.begin at e
  split at e
  · cases e
  · rename_i hlt
    cases e
    refine ⟨⟨⟨by rw [h2]; rfl, by rw [h1]; rfl, ?_, ?_, by rw [h2]; trivial, by rw [h1]; trivial, hn⟩, hk, h.frs⟩, h.defs, h.tw⟩
    · rw [h2]; show 0 + (s.rest.length + 1) ≤ 64; omega
    · rw [h1]; show 0 + (s.rest.length + 1) ≤ 64; omega
theorem StOk.endA {s s' : St} {at_ : Nat} (h : StOk false s) (e : s.endA at_ = .ok s') : StOk false s' := by
  obtain ⟨⟨kind, pos, root, names, name, els, fst, kids⟩, rest, defs, many, calls⟩ := s
  obtain ⟨hf, hd, ht⟩ := h
  cases rest with
  | nil => cases e
  | cons g r =>
    obtain ⟨h1, h2, h3⟩ := hf
    simp only [St.endA] at e
    split at e
    · rename_i h6
      cases e
      have h7 : kind = 6 ∧ r = [] ∧ nameOk name = true ∧ hasDef defs name = false := by
        rcases h2 with h2 | h2 | h2
        · simp at h2; omega
        · simp at h2; omega
        · exact h2
      obtain ⟨-, rfl, h8, h9⟩ := h7
      refine ⟨⟨h3.1, h3.2⟩, ?_, ?_⟩
      · intro d hd'
        rcases List.mem_append.1 hd' with hd' | hd'
        · exact hd d hd'
        · simp at hd'; subst hd'
          refine ⟨h8, h1.kids, ?_, h1.ck⟩
          have := h1.dk
          show 1 + kids.deep ≤ 64
          simp at this; omega
      · rw [List.map_append]
        refine twice_snoc _ _ ht ?_
        rw [← hasDef_mem]; exact h9
    · rename_i h6
      cases e
      have hk : kind = 3 ∨ kind = 4 := by
        rcases h2 with h2 | h2 | h2
        · exact .inl h2
        · exact .inr h2
        · exact absurd h2.1 h6
      have hka : (if els then fst else kids).form false = true := by split; exact h1.fst; exact h1.kids
      have hkb : (if els then kids else Pt.nil).form false = true := by split; exact h1.kids; rfl
      have hda : (if els then fst else kids).deep + (r.length + 1) ≤ 64 := by split; exact h1.df; exact h1.dk
      have hdb : (if els then kids else Pt.nil).deep + (r.length + 1) ≤ 64 := by
        split
        · exact h1.dk
        · have := h1.dk; simp at this; show 0 + (r.length + 1) ≤ 64; omega
      have hca : (if els then fst else kids).cin (calls.map Prod.fst) := by split; exact h1.cf; exact h1.ck
      have hcb : (if els then kids else Pt.nil).cin (calls.map Prod.fst) := by split; exact h1.ck; trivial
      have hbase : StOk false { top := g, rest := r, defs := defs, many := many, calls := calls } := ⟨h3, hd, ht⟩
      refine hbase.put (one_way _ _ _ _ _ _ hk h1.nm hka hkb false) ?_ ⟨fun e => ?_, hca, hcb, trivial⟩
      · simp only [Pt.one, Pt.deep, hdWay, if_pos hk]
        omega
      · simp only [hdWay] at e; omega
theorem StOk.elseA {s s' : St} {at_ : Nat} (h : StOk false s) (e : s.elseA at_ = .ok s') : StOk false s' := by
  unfold St.elseA at e
  split at e
  · cases e
  · cases e
    have ht := h.frs.top
    refine ⟨h.frs.turn rfl rfl ⟨rfl, ht.kids, ?_, ht.dk, trivial, ht.ck, ht.nm⟩, h.defs, h.tw⟩
    have := ht.dk
    show 0 + s.rest.length ≤ 64
    omega
theorem StOk.act1 {s s' : St} {w : By} {at_ : Nat} (h : StOk false s) (e : act1 w at_ s = .ok s') : StOk false s' := by
  unfold Go.Proofs.YtdgcdjpjnhlihaaGreatDoor.act1 at e
  split at e
  · exact h.endA e
  split at e
  · exact h.elseA e
  split at e
  · cases e
  · rename_i p hp
    exact h.add (one_hole _ _ _ (wayB_names _ _ hp) false) ⟨by show (2 : Nat) ≠ 3; decide, by show (2 : Nat) ≠ 4; decide⟩ (by show (2 : Nat) ≠ 5; decide) e
theorem StOk.act2 {s s' : St} {w x : By} {at_ : Nat} (h : StOk false s) (e : act2 w x at_ s = .ok s') : StOk false s' := by
  unfold Go.Proofs.YtdgcdjpjnhlihaaGreatDoor.act2 at e
  split at e
  · split at e
    · cases e
    · rename_i p hp
      obtain ⟨t, ht, e⟩ := Rs.bind_eq_ok e
      refine (h.begin ?_ rfl rfl (wayB_names _ _ hp) ht).count e
      dsimp only
      split
      · exact .inl rfl
      · exact .inr (.inl rfl)
  split at e
  · split at e
    · cases e
    · rename_i hn
      simp only [not_or, Decidable.not_not] at hn
      split at e
      · cases e
      · rename_i hd
        exact h.begin (.inr (.inr ⟨rfl, hn.2, by simpa using hn.1, by simpa using hd⟩)) rfl rfl rfl e
  · cases e
theorem StOk.act3 {s s' : St} {w x y : By} {at_ : Nat} (h : StOk false s) (e : act3 w x y at_ s = .ok s') : StOk false s' := by
  unfold Go.Proofs.YtdgcdjpjnhlihaaGreatDoor.act3 at e
  split at e
  · split at e
    · cases e
    · rename_i p hp
      split at e
      · cases e
      · rename_i hn
        obtain ⟨t, ht, e⟩ := Rs.bind_eq_ok e
        cases e
        have h2 := h.count ht
        have hm : ∀ n ∈ t.calls.map Prod.fst, n ∈ (t.calls ++ [(x, at_)]).map Prod.fst := by
          intro n hn; rw [List.map_append]; exact List.mem_append_left _ hn
        have h3 : StOk false { t with calls := t.calls ++ [(x, at_)] } := ⟨h2.frs.mono hm, fun d hd => ⟨(h2.defs d hd).1, (h2.defs d hd).2.1, (h2.defs d hd).2.2.1, Pt.cin_mono _ _ hm _ (h2.defs d hd).2.2.2⟩, h2.tw⟩
        refine h3.put (one_call _ _ _ _ (by simpa using hn) (wayB_names _ _ hp) false) ?_ ⟨fun _ => ?_, trivial, trivial, trivial⟩
        · rw [one_deep _ ⟨by show (5 : Nat) ≠ 3; decide, by show (5 : Nat) ≠ 4; decide⟩]
          have := h3.rl; omega
        · show bl (mkB x) ∈ _
          rw [bl_mkB, List.map_append]
          exact List.mem_append_right _ (by simp)
  · cases e
theorem StOk.action {s s' : St} {x : By} {at_ : Nat} (h : StOk false s) (e : action x at_ s = .ok s') : StOk false s' := by
  unfold Go.Proofs.YtdgcdjpjnhlihaaGreatDoor.action at e
  split at e
  · cases e; exact h
  split at e
  · exact h.act1 e
  · exact h.act2 e
  · exact h.act3 e
  · cases e
theorem cut2_none_mid (c : UInt8) (x : By) (h : cut2 c x = none) (hn : x ≠ []) (hv : Lib.validD x = true) (fr : Bool) (hl : fr = false → x.getLast? ≠ some 123) (hc : c = 123) : mayB x fr = true := by
  subst hc
  unfold mayB
  rw [hv, h]
  cases x with
  | nil => exact absurd rfl hn
  | cons a r =>
    cases fr with
    | true => rfl
    | false => have := hl rfl; simp only [List.isEmpty_cons, Bool.not_false, Option.isNone_none, Bool.and_self, Bool.true_and, Bool.false_or, decide_eq_true_eq, ne_eq]; exact this
/-- Validity of what stands on both sides of an ASCII byte. -/
def Cuts : Prop := ∀ (a b : By) (c : UInt8), c.toNat < 128 → Lib.validD (a ++ c :: b) = true → Lib.validD a = true ∧ Lib.validD b = true
theorem StOk.readF (HC : Cuts) (f : Nat) : ∀ (x : By) (at_ : Nat) (s s' : St), StOk false s → Lib.validD x = true → readF f x at_ s = .ok s' → StOk true s' := by
  induction f with
  | zero =>
    intro x at_ s s' h _ e
    cases e
    exact ⟨h.frs.turn rfl rfl { h.frs.top with kids := Pt.form_mono _ _ h.frs.top.kids }, h.defs, h.tw⟩
  | succ f ih =>
    intro x at_ s s' h hv e
    have free : ∀ s : St, StOk false s → StOk true s := fun s h => ⟨h.frs.turn rfl rfl { h.frs.top with kids := Pt.form_mono _ _ h.frs.top.kids }, h.defs, h.tw⟩
    unfold Go.Proofs.YtdgcdjpjnhlihaaGreatDoor.readF at e
    split at e
    · cases e; exact free _ h
    · rename_i hx
      split at e
      · rename_i hc
        exact h.add (one_text _ _ _ (cut2_none_mid 123 x hc hx hv true (fun e => by cases e) rfl)) ⟨by show (1 : Nat) ≠ 3; decide, by show (1 : Nat) ≠ 4; decide⟩ (by show (1 : Nat) ≠ 5; decide) e
      · rename_i a r hc
        obtain ⟨t, ht, e1⟩ := Rs.bind_eq_ok e
        clear e
        obtain ⟨rfl, hn, hla⟩ := cut2_some 123 _ _ _ hc
        obtain ⟨va, vr⟩ := HC _ _ 123 (by decide) hv
        obtain ⟨-, vr⟩ := HC [] _ 123 (by decide) vr
        have h1 : StOk false t := by
          split at ht
          · cases ht; exact h
          · rename_i ha
            exact h.add (one_text _ _ _ (cut2_none_mid 123 a hn ha va false (fun _ => hla) rfl)) ⟨by show (1 : Nat) ≠ 3; decide, by show (1 : Nat) ≠ 4; decide⟩ (by show (1 : Nat) ≠ 5; decide) ht
        split at e1
        · cases e1
        · rename_i i r2 hc2
          obtain ⟨u, hu, e2⟩ := Rs.bind_eq_ok e1
          clear e1
          obtain ⟨rfl, -, -⟩ := cut2_some 125 _ _ _ hc2
          obtain ⟨-, v2⟩ := HC _ _ 125 (by decide) vr
          obtain ⟨-, v2⟩ := HC [] _ 125 (by decide) v2
          exact ih _ _ _ _ (h1.action hu) v2 e2
theorem noneAt_some (defs : List Df) (cs : List (By × Nat)) (h : noneAt defs cs = none) : ∀ n ∈ cs.map Prod.fst, hasDef defs n = true := by
  induction cs with
  | nil => intro n hn; cases hn
  | cons c r ih =>
    unfold noneAt at h
    split at h
    · rename_i hc
      intro n hn
      simp only [List.map_cons, List.mem_cons] at hn
      rcases hn with rfl | hn
      · exact hc
      · exact ih h n hn
    · cases h
/-- What was read may be, but for its size. -/
theorem parse_check (HC : Cuts) (bad : By → Option Nat) (hb : ∀ x, bad x = none → Lib.validD x = true) (x : By) (t : Tm) (h : parseB bad x = .ok t) : t.check = 0 ∨ t.check = 196 := by
  unfold parseB at h
  split at h
  · cases h
  split at h
  · cases h
  · rename_i hn
    obtain ⟨s, hs, h⟩ := Rs.bind_eq_ok h
    have ho := StOk.readF HC _ _ _ _ _ StOk.start (hb _ hn) hs
    unfold finish at h
    split at h
    · cases h
    · rename_i hr
      split at h
      · cases h
      · rename_i hna
        cases h
        have hr' : s.rest = [] := by simpa using hr
        have hcl := noneAt_some _ _ hna
        obtain ⟨top, rest, defs, many, calls⟩ := s
        obtain rfl : rest = [] := hr'
        obtain ⟨⟨-, hf⟩, hd, ht⟩ := ho
        unfold Tm.check
        have c1 : (top.kids.form true && defs.all fun d => nameOk (bl d.name) && d.kids.form false) = true := by
          rw [Bool.and_eq_true]
          refine ⟨hf.kids, ?_⟩
          rw [List.all_eq_true]
          intro d hdd
          rw [Bool.and_eq_true]
          exact ⟨(hd d hdd).1, (hd d hdd).2.1⟩
        rw [if_neg (by rw [c1]; decide)]
        have c2 : ∀ l : List Df, (∀ d ∈ l, 1 + d.kids.deep ≤ 64) → (l.map fun d => 1 + d.kids.deep).foldr max 0 ≤ 64 := by
          intro l
          induction l with
          | nil => intro _; decide
          | cons d l ih =>
            intro hl
            have := ih (fun d hd => hl d (by simp [hd]))
            have h2 := hl d (by simp)
            simp only [List.map_cons, List.foldr_cons]; omega
        have c3 := c2 defs (fun d hdd => (hd d hdd).2.2.1)
        have c4 := hf.dk
        rw [if_neg (by show ¬ 64 < max top.kids.deep ((defs.map fun d => 1 + d.kids.deep).foldr max 0); replace c4 : top.kids.deep + 0 ≤ 64 := c4; omega)]
        rw [if_neg (by rw [ht]; decide)]
        have c5 : (top.kids.called defs && defs.all fun d => d.kids.called defs) = true := by
          rw [Bool.and_eq_true]
          refine ⟨Pt.cin_called _ _ hcl _ hf.ck, ?_⟩
          rw [List.all_eq_true]
          intro d hdd
          exact Pt.cin_called _ _ hcl _ (hd d hdd).2.2.2
        rw [if_neg (by rw [c5]; decide)]
        split
        · exact .inr rfl
        · exact .inl rfl
/-- An error is one of these, and its place lies in the source. -/
theorem act_err {x : By} {at_ : Nat} {s : St} {e i : Nat} (h : action x at_ s = .err e i) : (190 ≤ e ∧ e ≤ 197) ∧ i = at_ := by
  have hc : ∀ {s : St} {e i : Nat}, s.count at_ = .err e i → (190 ≤ e ∧ e ≤ 197) ∧ i = at_ := by
    intro s e i h; unfold St.count at h; split at h
    · cases h; exact ⟨by omega, rfl⟩
    · cases h
  have hb : ∀ {α β : Type} {r : Rs α} {f : α → Rs β} {e i : Nat}, r.bind f = .err e i → r = .err e i ∨ ∃ a, r = .ok a ∧ f a = .err e i := by
    intro α β r f e i h
    cases r with
    | ok a => exact .inr ⟨a, rfl, h⟩
    | err e' i' => left; cases h; rfl
  have ha : ∀ {s : St} {hd : Hd} {e i : Nat}, s.add hd at_ = .err e i → (190 ≤ e ∧ e ≤ 197) ∧ i = at_ := by
    intro s hd e i h; unfold St.add at h
    rcases hb h with h | ⟨_, _, h⟩
    · exact hc h
    · cases h
  have hbg : ∀ {s : St} {f : Fr} {e i : Nat}, s.begin f at_ = .err e i → (190 ≤ e ∧ e ≤ 197) ∧ i = at_ := by
    intro s f e i h; unfold St.begin at h; split at h
    · cases h; exact ⟨by omega, rfl⟩
    · cases h
  unfold action at h
  split at h
  · cases h
  split at h
  · unfold act1 at h
    split at h
    · unfold St.endA at h
      split at h
      · cases h; exact ⟨by omega, rfl⟩
      · split at h <;> cases h
    split at h
    · unfold St.elseA at h
      split at h
      · cases h; exact ⟨by omega, rfl⟩
      · cases h
    split at h
    · cases h; exact ⟨by omega, rfl⟩
    · exact ha h
  · unfold act2 at h
    split at h
    · split at h
      · cases h; exact ⟨by omega, rfl⟩
      · rcases hb h with h | ⟨_, _, h⟩
        · exact hbg h
        · exact hc h
    split at h
    · split at h
      · cases h; exact ⟨by omega, rfl⟩
      split at h
      · cases h; exact ⟨by omega, rfl⟩
      · exact hbg h
    · cases h; exact ⟨by omega, rfl⟩
  · unfold act3 at h
    split at h
    · split at h
      · cases h; exact ⟨by omega, rfl⟩
      · split at h
        · cases h; exact ⟨by omega, rfl⟩
        · rcases hb h with h | ⟨_, _, h⟩
          · exact hc h
          · cases h
    · cases h; exact ⟨by omega, rfl⟩
  · cases h; exact ⟨by omega, rfl⟩
theorem bind_err {α β : Type} {r : Rs α} {f : α → Rs β} {e i : Nat} (h : r.bind f = .err e i) : r = .err e i ∨ ∃ a, r = .ok a ∧ f a = .err e i := by
  cases r with
  | ok a => exact .inr ⟨a, rfl, h⟩
  | err e' i' => left; cases h; rfl
theorem add_err {s : St} {hd : Hd} {at_ e i : Nat} (h : s.add hd at_ = .err e i) : (190 ≤ e ∧ e ≤ 197) ∧ i = at_ := by
  unfold St.add at h
  rcases bind_err h with h | ⟨_, _, h⟩
  · unfold St.count at h
    split at h
    · cases h; exact ⟨by omega, rfl⟩
    · cases h
  · cases h
theorem readF_err (f : Nat) : ∀ (x : By) (at_ : Nat) (s : St) (e i : Nat), readF f x at_ s = .err e i → (190 ≤ e ∧ e ≤ 197) ∧ i ≤ at_ + x.length := by
  induction f with
  | zero => intro x at_ s e i h; cases h
  | succ f ih =>
    intro x at_ s e i h
    unfold readF at h
    split at h
    · cases h
    split at h
    · have := add_err h; omega
    · rename_i a r hc
      obtain ⟨rfl, -, -⟩ := cut2_some 123 _ _ _ hc
      simp only [List.length_append, List.length_cons]
      rcases bind_err h with h1 | ⟨t, ht, h1⟩
      · clear h
        split at h1
        · cases h1
        · have := add_err h1; omega
      · clear h
        split at h1
        · cases h1; omega
        · rename_i j r2 hc2
          obtain ⟨rfl, -, -⟩ := cut2_some 125 _ _ _ hc2
          simp only [List.length_append, List.length_cons]
          rcases bind_err h1 with h2 | ⟨u, hu, h2⟩
          · have := act_err h2; omega
          · have := ih _ _ _ _ _ h2; omega
end Go.Proofs.YtdgcdjpjnhlihaaGreatDoor
set_option linter.unusedVariables false
namespace Go.Proofs.YtdgcdjpjnhlihaaGreatDoor
open Go.RowKit Go.Shelf Go.Lib

theorem rnEncB (r : Int) (h : Sc r) (h1 : 128 ≤ r) : ∀ x ∈ encodeRune r, 128 ≤ x.toNat := by
  obtain ⟨h0, h2, h3⟩ := h
  intro x hx
  unfold encodeRune at hx
  by_cases a2 : r ≤ 2047
  · rw [encodeRuneZ_two (by omega) a2] at hx
    simp only [List.map_cons, List.map_nil, List.mem_cons, List.mem_nil_iff, or_false] at hx
    rcases hx with rfl | rfl <;> rw [byte_toNat _ (by omega) (by omega)] <;> omega
  by_cases a3 : r ≤ 65535
  · rw [encodeRuneZ_three (by omega)] at hx
    simp only [List.map_cons, List.map_nil, List.mem_cons, List.mem_nil_iff, or_false] at hx
    rcases hx with rfl | rfl | rfl <;> rw [byte_toNat _ (by omega) (by omega)] <;> omega
  · rw [encodeRuneZ_four (by omega) (by omega)] at hx
    simp only [List.map_cons, List.map_nil, List.mem_cons, List.mem_nil_iff, or_false] at hx
    rcases hx with rfl | rfl | rfl | rfl <;> rw [byte_toNat _ (by omega) (by omega)] <;> omega
theorem rnEncS (r : Int) (h0 : 0 ≤ r) (h1 : r < 128) : encodeRune r = [r.toNat.toUInt8] := by
  unfold encodeRune; rw [encodeRuneZ_one h0 (by omega)]; rfl
theorem encR_split (c : UInt8) (hc : c.toNat < 128) (b : List UInt8) : ∀ (rs : List Int), (∀ r ∈ rs, Sc r) → ∀ a, encR rs = a ++ c :: b → ∃ p q, a = encR p ∧ b = encR q ∧ (∀ r ∈ p, Sc r) ∧ ∀ r ∈ q, Sc r := by
  intro rs
  induction rs with
  | nil => intro _ a h; simp [encR] at h
  | cons r rs ih =>
    intro hs a h
    have hr := hs r (by simp)
    have hrs : ∀ x ∈ rs, Sc x := fun x hx => hs x (by simp [hx])
    rw [encR_cons] at h
    rcases List.append_eq_append_iff.1 h with ⟨d, h1, h2⟩ | ⟨d, h1, h2⟩
    · obtain ⟨p, q, e1, e2, e3, e4⟩ := ih hrs d h2
      exact ⟨r :: p, q, by rw [encR_cons, h1, e1], e2, by simpa using ⟨hr, e3⟩, e4⟩
    · cases d with
      | nil =>
        have h3 : encR rs = [] ++ c :: b := by simpa using h2.symm
        obtain ⟨p, q, e1, e2, e3, e4⟩ := ih hrs [] h3
        refine ⟨r :: p, q, ?_, e2, by simpa using ⟨hr, e3⟩, e4⟩
        rw [encR_cons, ← e1, h1]
        simp
      | cons x d =>
        simp only [List.cons_append, List.cons.injEq] at h2
        obtain ⟨rfl, h3⟩ := h2
        by_cases hb : 128 ≤ r
        · have := rnEncB r hr hb c (by rw [h1]; simp)
          omega
        · rw [rnEncS r hr.1 (by omega)] at h1
          have hl := congrArg List.length h1
          simp at hl
          have ha : a = [] := List.eq_nil_of_length_eq_zero (by omega)
          have hd : d = [] := List.eq_nil_of_length_eq_zero (by omega)
          refine ⟨[], rs, by rw [ha]; rfl, by rw [h3, hd]; rfl, by simp, hrs⟩
theorem cuts : Cuts := by
  intro a b c hc h
  have h1 := (valid_decd _).1 h
  rw [decd_rns] at h1
  obtain ⟨p, q, rfl, rfl, h3, h4⟩ := encR_split c hc b _ (rns_sc _) a h1
  exact ⟨valid_of_encR p h3, valid_of_encR q h4⟩
end Go.Proofs.YtdgcdjpjnhlihaaGreatDoor
set_option linter.unusedVariables false
namespace Go.Proofs.YtdgcdjpjnhlihaaGreatDoor
open Go.RowKit Go.Shelf Go.Lib

end Go.Proofs.YtdgcdjpjnhlihaaGreatDoor
