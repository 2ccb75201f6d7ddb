/-
  Plain laws of percent coding: what is encoded is decoded to what it was; what is encoded is safe; the sets lie within one another. No program in sight.
-/
import Derived.Test.YtgppagdnjhpojaaMath
import Derived.Test.YtgppagdnjhpojaaHexm
namespace Go.Proofs.Ytgppagdnjhpojaa

theorem hexv_hexd (n : Nat) (h : n < 16) : hexv (hexd n).toNat = n := by
  have key : ∀ m : Fin 16, hexv (hexd m.1).toNat = m.1 := by decide +kernel
  exact key ⟨n, h⟩
theorem byte_back (c : UInt8) : (((c.toNat / 16 : Nat) : Int) * 16 + ((c.toNat % 16 : Nat) : Int)).toNat.toUInt8 = c := by
  have e : (((c.toNat / 16 : Nat) : Int) * 16 + ((c.toNat % 16 : Nat) : Int)).toNat = c.toNat := by omega
  rw [e]; simp
theorem dec_encB (set : Int) (c : UInt8) (r : List UInt8) (h : pin c.toNat set = true ∨ c ≠ 37) : dec (encB set c ++ r) = c :: dec r := by
  by_cases hp : pin c.toNat set = true
  · have hc := c.toNat_lt
    rw [encB_in set c hp]
    show dec (37 :: hexd (c.toNat / 16) :: hexd (c.toNat % 16) :: r) = _
    rw [dec_hit _ _ _ (by rw [hexv_hexd _ (by omega)]; omega) (by rw [hexv_hexd _ (by omega)]; omega), hexv_hexd _ (by omega), hexv_hexd _ (by omega), byte_back]
  · have hp' : pin c.toNat set = false := by simpa using hp
    rw [encB_out set c hp']
    exact dec_plain c r (h.resolve_left hp)
theorem dec_enc (set : Int) (l : List UInt8) (h : ∀ c ∈ l, pin c.toNat set = true ∨ c ≠ 37) : dec (enc set l) = l := by
  induction l with
  | nil => rfl
  | cons c l ih =>
    show dec (encB set c ++ enc set l) = _
    rw [dec_encB set c _ (h c (by simp)), ih (fun x hx => h x (by simp [hx]))]
theorem dec_enc6 (l : List UInt8) : dec (enc 6 l) = l := by
  refine dec_enc 6 l (fun c _ => ?_)
  by_cases h : c = 37
  · left; subst h; decide
  · exact .inr h
theorem dec_enc_none (set : Int) (l : List UInt8) (h : (37 : UInt8) ∉ l) : dec (enc set l) = l :=
  dec_enc set l (fun c hc => .inr (fun e => h (e ▸ hc)))

/-- Above 6 a set is the set 0. -/
theorem pin_other (c set : Int) (h : ¬ (1 ≤ set ∧ set ≤ 6)) : pin c set = pin c 0 := by
  unfold pin
  split
  · rfl
  · rw [if_neg (by omega), if_neg (by omega), if_neg (by omega), if_neg (by omega), if_neg (by omega), if_neg (by omega)]; rfl
theorem hexd_safe (n : Nat) (h : n < 16) (set : Int) : 32 ≤ (hexd n).toNat ∧ (hexd n).toNat ≤ 126 ∧ pin (hexd n).toNat set = false := by
  have key : ∀ m : Fin 16, 32 ≤ (hexd m.1).toNat ∧ (hexd m.1).toNat ≤ 126 ∧ ∀ s : Fin 7, pin (hexd m.1).toNat (s.1 : Int) = false := by decide +kernel
  obtain ⟨k1, k2, k3⟩ := key ⟨n, h⟩
  refine ⟨k1, k2, ?_⟩
  by_cases hs : 1 ≤ set ∧ set ≤ 6
  · have := k3 ⟨set.toNat, by omega⟩
    simpa [Int.toNat_of_nonneg (show 0 ≤ set by omega)] using this
  · rw [pin_other _ _ hs]; exact k3 0
theorem pin37 (set : Int) (h : set ≠ 6) : pin 37 set = false := by
  have key : ∀ s : Fin 6, pin 37 (s.1 : Int) = false := by decide +kernel
  by_cases hs : 1 ≤ set ∧ set ≤ 6
  · have := key ⟨set.toNat, by omega⟩
    simpa [Int.toNat_of_nonneg (show 0 ≤ set by omega)] using this
  · rw [pin_other _ _ hs]; exact key 0
/-- A byte that may stand in what is written. -/
def safeB (set : Int) (t : UInt8) : Prop := 32 ≤ t.toNat ∧ t.toNat ≤ 126 ∧ (t = 37 ∨ pin t.toNat set = false)
theorem encB_safe (set : Int) (c : UInt8) : ∀ t ∈ encB set c, safeB set t := by
  have hc := c.toNat_lt
  by_cases hp : pin c.toNat set = true
  · rw [encB_in set c hp]
    intro t ht
    simp only [List.mem_cons, List.not_mem_nil, or_false] at ht
    rcases ht with rfl | rfl | rfl
    · exact ⟨by decide, by decide, .inl rfl⟩
    · have := hexd_safe (c.toNat / 16) (by omega) set
      exact ⟨this.1, this.2.1, .inr this.2.2⟩
    · have := hexd_safe (c.toNat % 16) (by omega) set
      exact ⟨this.1, this.2.1, .inr this.2.2⟩
  · have hp' : pin c.toNat set = false := by simpa using hp
    rw [encB_out set c hp']
    intro t ht
    simp only [List.mem_cons, List.not_mem_nil, or_false] at ht
    subst ht
    have hr : ¬ ((t.toNat : Int) < 32 ∨ 126 < (t.toNat : Int)) := by
      intro h
      unfold pin at hp'
      rw [if_pos h] at hp'
      cases hp'
    exact ⟨by omega, by omega, .inr hp'⟩
theorem enc_safe (set : Int) (l : List UInt8) : ∀ t ∈ enc set l, safeB set t := by
  intro t ht
  unfold enc at ht
  rw [List.mem_flatMap] at ht
  obtain ⟨c, _, h⟩ := ht
  exact encB_safe set c t h
theorem enc_same (set : Int) (l : List UInt8) (h : ∀ t ∈ l, pin t.toNat set = false) : enc set l = l := by
  induction l with
  | nil => rfl
  | cons c l ih =>
    show encB set c ++ enc set l = _
    rw [encB_out set c (h c (by simp)), ih (fun x hx => h x (by simp [hx]))]; rfl
theorem enc_twice (set : Int) (l : List UInt8) (h : set ≠ 6) : enc set (enc set l) = enc set l := by
  refine enc_same set _ (fun t ht => ?_)
  obtain ⟨_, _, h3⟩ := enc_safe set l t ht
  rcases h3 with rfl | h3
  · exact pin37 set h
  · exact h3
/-- The pairs of sets of which the first lies within the second. -/
def within : List (Int × Int) := [(0, 1), (0, 2), (2, 3), (2, 4), (4, 5), (5, 6)]
theorem pin_within (c : Nat) (hc : c < 256) (p : Int × Int) (hp : p ∈ within) (h : pin c p.1 = true) : pin c p.2 = true := by
  have key : ∀ x : Fin 256, ∀ p ∈ within, pin (x.1 : Int) p.1 = true → pin (x.1 : Int) p.2 = true := by decide +kernel
  exact key ⟨c, hc⟩ p hp h
end Go.Proofs.Ytgppagdnjhpojaa
