/-
  Plain laws on decoding: the code points of bytes, piece by piece; what is decoded is decoded once for all; two decoded texts together. No program in sight, no condition.
-/
import Derived.Test.YteffnlelmcbgmaaDoorRns
set_option linter.unusedVariables false
namespace Go.Proofs.YteffnlelmcbgmaaDoor
open Go.Lib

theorem decodeGo_L (l : List UInt8) (h : l ≠ []) : decodeGo ⟨l.toArray⟩ = decodeL l := by
  unfold decodeGo decodeL
  rw [if_neg]
  intro e
  exact h (List.length_eq_zero_iff.1 e)
/-- A piece that is a code point's. -/
theorem pc_yes (l : List UInt8) (h : l ≠ []) (hp : (pc l).2 = true) : Sc (rn l) ∧ encodeRune (rn l) = l.take (pc l).1 := by
  have hN := pc_N l h
  rw [hN] at hp
  obtain ⟨h1, h2, h3⟩ := pcN_yes _ _ _ _ _ (l.getD 0 0).toNat_lt (l.getD 1 0).toNat_lt (l.getD 2 0).toNat_lt (l.getD 3 0).toNat_lt hp
  rw [← hN] at hp h2
  rw [← decodeL_N] at h1 h2 h3
  have hr : rn l = ((decodeL l).1 : Int) := by unfold rn; rw [if_pos hp, decodeGo_L l h]
  rw [hr]
  refine ⟨h3, ?_⟩
  rw [encode_decode l h (fun e => h1 (Prod.ext e.1 e.2)), h2]
theorem pc_no (l : List UInt8) (h : l ≠ []) (hp : (pc l).2 = false) : rn l = 65533 ∧ decodeL l = (65533, 1) := by
  have hN := pc_N l h
  refine ⟨by unfold rn; rw [hp]; rfl, ?_⟩
  rw [hN] at hp
  rw [decodeL_N]
  exact pcN_no _ _ _ _ _ (l.getD 0 0).toNat_lt (l.getD 1 0).toNat_lt (l.getD 2 0).toNat_lt (l.getD 3 0).toNat_lt hp
theorem rn_sc (l : List UInt8) (h : l ≠ []) : Sc (rn l) := by
  cases hp : (pc l).2 with
  | true => exact (pc_yes l h hp).1
  | false => rw [(pc_no l h hp).1]; unfold Sc; omega

/-- Code points' bytes are pieces. -/
theorem byte_toNat (z : Int) (h0 : 0 ≤ z) (h1 : z < 256) : (z.toNat.toUInt8).toNat = z.toNat := by
  have : z.toNat < 256 := by omega
  simp [Nat.toUInt8, UInt8.toNat_ofNat']; omega
set_option maxHeartbeats 2000000 in
theorem pc_enc (r : Int) (h : Sc r) (t : List UInt8) : pc (encodeRune r ++ t) = ((encodeRune r).length, true) ∧ rn (encodeRune r ++ t) = r := by
  obtain ⟨h0, h1, h2⟩ := h
  have key : ∀ l : List UInt8, l ≠ [] → (pc l).2 = true → rn l = ((decodeN l.length (l.getD 0 0).toNat (l.getD 1 0).toNat (l.getD 2 0).toNat (l.getD 3 0).toNat).1 : Int) := by
    intro l hl hp
    unfold rn; rw [if_pos hp, decodeGo_L l hl, decodeL_N]
  unfold encodeRune
  by_cases a1 : r ≤ 127
  · rw [encodeRuneZ_one h0 a1]
    simp only [List.map_cons, List.map_nil, List.cons_append, List.nil_append, List.length_cons, List.length_nil]
    have hb := byte_toNat r h0 (by omega)
    generalize r.toNat.toUInt8 = c at *
    have hp : pc (c :: t) = (1, true) := by rw [pc_N _ (by simp)]; unfold pcN; rw [if_pos]; show c.toNat < 128; omega
    refine ⟨hp, ?_⟩
    rw [key _ (by simp) (by rw [hp])]
    unfold decodeN
    rw [if_pos (by show c.toNat < 128; omega)]
    show ((c.toNat : Nat) : Int) = r; omega
  by_cases a2 : r ≤ 2047
  · rw [encodeRuneZ_two (by omega) a2]
    simp only [List.map_cons, List.map_nil, List.cons_append, List.nil_append, List.length_cons, List.length_nil]
    have hb := byte_toNat (192 + r / 64) (by omega) (by omega)
    have hc := byte_toNat (128 + r % 64) (by omega) (by omega)
    generalize (192 + r / 64).toNat.toUInt8 = b at *
    generalize (128 + r % 64).toNat.toUInt8 = c at *
    have hp : pc (b :: c :: t) = (2, true) := by
      rw [pc_N _ (by simp)]
      show pcN (t.length + 2) b.toNat c.toNat _ _ = _
      unfold pcN
      rw [if_neg (by omega), if_neg (by omega), if_pos (by omega), if_pos (by omega)]
    refine ⟨hp, ?_⟩
    rw [key _ (by simp) (by rw [hp])]
    show ((decodeN (t.length + 2) b.toNat c.toNat _ _).1 : Int) = r
    unfold decodeN
    rw [if_neg (by omega), if_pos (by omega), if_pos (by omega)]
    dsimp only; omega
  by_cases a3 : r ≤ 65535
  · rw [encodeRuneZ_three (by omega)]
    simp only [List.map_cons, List.map_nil, List.cons_append, List.nil_append, List.length_cons, List.length_nil]
    have hb := byte_toNat (224 + r / 4096) (by omega) (by omega)
    have hc := byte_toNat (128 + r / 64 % 64) (by omega) (by omega)
    have hd := byte_toNat (128 + r % 64) (by omega) (by omega)
    generalize (224 + r / 4096).toNat.toUInt8 = b at *
    generalize (128 + r / 64 % 64).toNat.toUInt8 = c at *
    generalize (128 + r % 64).toNat.toUInt8 = d at *
    have hp : pc (b :: c :: d :: t) = (3, true) := by
      rw [pc_N _ (by simp)]
      show pcN (t.length + 3) b.toNat c.toNat d.toNat _ = _
      unfold pcN
      rw [if_neg (by omega), if_neg (by omega), if_neg (by omega), if_pos (by omega), if_pos (by unfold lof hif; (repeat' split) <;> omega), if_pos (by omega)]
    refine ⟨hp, ?_⟩
    rw [key _ (by simp) (by rw [hp])]
    show ((decodeN (t.length + 3) b.toNat c.toNat d.toNat _).1 : Int) = r
    unfold decodeN
    rw [if_neg (by omega), if_neg (by omega), if_pos (by omega), if_pos (by omega)]
    dsimp only; omega
  · rw [encodeRuneZ_four (by omega) (by omega)]
    simp only [List.map_cons, List.map_nil, List.cons_append, List.nil_append, List.length_cons, List.length_nil]
    have hb := byte_toNat (240 + r / 262144) (by omega) (by omega)
    have hc := byte_toNat (128 + r / 4096 % 64) (by omega) (by omega)
    have hd := byte_toNat (128 + r / 64 % 64) (by omega) (by omega)
    have he := byte_toNat (128 + r % 64) (by omega) (by omega)
    generalize (240 + r / 262144).toNat.toUInt8 = b at *
    generalize (128 + r / 4096 % 64).toNat.toUInt8 = c at *
    generalize (128 + r / 64 % 64).toNat.toUInt8 = d at *
    generalize (128 + r % 64).toNat.toUInt8 = e at *
    have hp : pc (b :: c :: d :: e :: t) = (4, true) := by
      rw [pc_N _ (by simp)]
      show pcN (t.length + 4) b.toNat c.toNat d.toNat e.toNat = _
      unfold pcN
      rw [if_neg (by omega), if_neg (by omega), if_neg (by omega), if_neg (by omega), if_pos (by omega), if_pos (by unfold lof hif; (repeat' split) <;> omega), if_pos (by omega), if_pos (by omega)]
    refine ⟨hp, ?_⟩
    rw [key _ (by simp) (by rw [hp])]
    show ((decodeN (t.length + 4) b.toNat c.toNat d.toNat e.toNat).1 : Int) = r
    unfold decodeN
    rw [if_neg (by omega), if_neg (by omega), if_neg (by omega), if_pos (by omega), if_pos (by omega)]
    dsimp only; omega

/-- The code points of bytes, piece by piece. -/
def rnsF : Nat → List UInt8 → List Int
  | 0, _ => []
  | f + 1, l => if l = [] then [] else rn l :: rnsF f (l.drop (pc l).1)
def rns (l : List UInt8) : List Int := rnsF l.length l
theorem rnsF_nil (f : Nat) : rnsF f [] = [] := by cases f <;> rfl
theorem rns_nil : rns [] = [] := rfl
theorem rnsF_fuel (f g : Nat) (l : List UInt8) (hf : l.length ≤ f) (hg : l.length ≤ g) : rnsF f l = rnsF g l := by
  induction f generalizing g l with
  | zero =>
    have : l = [] := List.length_eq_zero_iff.1 (by omega)
    subst this; rw [rnsF_nil, rnsF_nil]
  | succ f ih =>
    by_cases hl : l = []
    · subst hl; rw [rnsF_nil, rnsF_nil]
    · have := pc_range l hl
      match g, hg with
      | 0, hg => exact absurd (List.length_eq_zero_iff.1 (by omega)) hl
      | g + 1, hg =>
        rw [rnsF, rnsF, if_neg hl, if_neg hl, ih g _ (by simp; omega) (by simp; omega)]
theorem rns_step (l : List UInt8) (h : l ≠ []) : rns l = rn l :: rns (l.drop (pc l).1) := by
  have hr := pc_range l h
  obtain ⟨f, hf⟩ : ∃ f, l.length = f + 1 := ⟨l.length - 1, by omega⟩
  unfold rns
  conv => lhs; rw [hf, rnsF, if_neg h]
  rw [rnsF_fuel f _ _ (by simp; omega) (Nat.le_refl _)]
theorem ptsF_map (f k : Nat) (l : List UInt8) : (ptsF f k l).map (fun x => clp x.2) = rnsF f l := by
  induction f generalizing k l with
  | zero => rfl
  | succ f ih =>
    unfold ptsF rnsF
    split
    · rfl
    · rw [List.map_cons, ih, clp_rn]
theorem pts_map (l : List UInt8) : (pts l).map (fun x => clp x.2) = rns l := ptsF_map _ _ _
/-- The bytes of code points. -/
def encR (l : List Int) : List UInt8 := l.flatMap encodeRune
theorem decd_rns (l : List UInt8) : decd l = encR (rns l) := by
  rw [← pts_map]; unfold decd encs encR; rw [List.flatMap_map]
theorem encR_app (a b : List Int) : encR (a ++ b) = encR a ++ encR b := by simp [encR]
theorem encR_cons (r : Int) (b : List Int) : encR (r :: b) = encodeRune r ++ encR b := rfl
/-- An induction over pieces. -/
theorem pc_ind {P : List UInt8 → Prop} (h0 : P []) (h1 : ∀ l, l ≠ [] → P (l.drop (pc l).1) → P l) (l : List UInt8) : P l := by
  obtain ⟨n, hn⟩ : ∃ n, l.length ≤ n := ⟨_, Nat.le_refl _⟩
  induction n generalizing l with
  | zero => rw [List.length_eq_zero_iff.1 (by omega : l.length = 0)]; exact h0
  | succ n ih =>
    by_cases hl : l = []
    · rw [hl]; exact h0
    · have := pc_range l hl
      exact h1 l hl (ih _ (by simp; omega))
theorem rns_sc (l : List UInt8) : ∀ r ∈ rns l, Sc r := by
  refine pc_ind (P := fun l => ∀ r ∈ rns l, Sc r) (by simp [rns_nil]) ?_ l
  intro l hl ih r hr
  rw [rns_step l hl] at hr
  rcases List.mem_cons.1 hr with rfl | hr
  · exact rn_sc l hl
  · exact ih r hr
theorem enc_ne (r : Int) : encodeRune r ≠ [] := by
  intro e; have := enc_rune_le r; rw [e] at this; simp at this
theorem rns_enc (rs : List Int) (h : ∀ r ∈ rs, Sc r) (t : List UInt8) : rns (encR rs ++ t) = rs ++ rns t := by
  induction rs with
  | nil => rfl
  | cons r rs ih =>
    obtain ⟨h1, h2⟩ := pc_enc r (h r (by simp)) (encR rs ++ t)
    rw [encR_cons, List.append_assoc, rns_step _ (by simp [enc_ne]), h1, h2, List.drop_left' rfl, ih (fun r hr => h r (by simp [hr]))]
    rfl
theorem rns_encR (rs : List Int) (h : ∀ r ∈ rs, Sc r) : rns (encR rs) = rs := by
  have := rns_enc rs h []
  rwa [List.append_nil, rns_nil, List.append_nil] at this
theorem rns_decd (l : List UInt8) : rns (decd l) = rns l := by rw [decd_rns, rns_encR _ (rns_sc l)]
theorem decd_encR (rs : List Int) (h : ∀ r ∈ rs, Sc r) : decd (encR rs) = encR rs := by rw [decd_rns, rns_encR rs h]
theorem decd_decd (l : List UInt8) : decd (decd l) = decd l := by rw [decd_rns (decd l), rns_decd, decd_rns]
theorem decd_join (a b : List UInt8) : decd (decd a ++ decd b) = decd a ++ decd b := by
  rw [decd_rns a, decd_rns b, ← encR_app, decd_encR]
  intro r hr
  rcases List.mem_append.1 hr with h | h
  · exact rns_sc a r h
  · exact rns_sc b r h
/-- Valid is what is decoded to itself. -/
theorem valid_decd (l : List UInt8) : validD l = true ↔ decd l = l := by
  refine pc_ind (P := fun l => validD l = true ↔ decd l = l) (by constructor <;> intro _ <;> rfl) ?_ l
  intro l hl ih
  rw [validD_step l hl, decd_rns, rns_step l hl, encR_cons, ← decd_rns]
  cases hp : (pc l).2 with
  | true =>
    obtain ⟨h1, h2⟩ := pc_yes l hl hp
    have hN := pc_N l hl
    have hp' := hp
    rw [hN] at hp'
    obtain ⟨g1, g2, g3⟩ := pcN_yes _ _ _ _ _ (l.getD 0 0).toNat_lt (l.getD 1 0).toNat_lt (l.getD 2 0).toNat_lt (l.getD 3 0).toNat_lt hp'
    rw [← hN] at g2
    rw [← decodeL_N] at g1 g2
    rw [if_neg (fun e => g1 (Prod.ext e.1 e.2)), h2, g2, ih]
    constructor
    · intro h; rw [h, List.take_append_drop]
    · intro h
      have := congrArg (List.drop (pc l).1) h
      rwa [List.drop_left' (by have := pc_range l hl; simp; omega)] at this
  | false =>
    obtain ⟨h1, h2⟩ := pc_no l hl hp
    rw [h2, if_pos ⟨rfl, rfl⟩, h1]
    constructor
    · intro h; cases h
    · intro h
      exfalso
      have e1 : encodeRune 65533 = [239, 191, 189] := by decide
      rw [e1] at h
      have hy := (pc_enc 65533 (by unfold Sc; omega) (decd (l.drop (pc l).1))).1
      rw [e1, h] at hy
      rw [hy] at hp; cases hp
theorem valid_of_encR (rs : List Int) (h : ∀ r ∈ rs, Sc r) : validD (encR rs) = true := (valid_decd _).2 (decd_encR rs h)
end Go.Proofs.YteffnlelmcbgmaaDoor
