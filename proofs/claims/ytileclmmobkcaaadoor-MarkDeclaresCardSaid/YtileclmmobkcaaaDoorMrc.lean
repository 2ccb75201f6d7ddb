/-
  Contracts of the document's answer (lacunaref04): word, space, cdata. The condition: the text takes at most 2 to the 28th bytes.
-/
import Derived.Test.YtileclmmobkcaaaDoorMrb
import Derived.Test.YtileclmmobkcaaaDoorMdl
set_option linter.unusedVariables false
namespace Go.Proofs.YtileclmmobkcaaaDoor
open Go.RowKit Go.Shelf

set_option maxRecDepth 100000 in
theorem wordR_calls (s W : ByteArray) (n : Nat) (r : List UInt8) (hs : s.size ≤ 268435456) (hWs : W.size ≤ 100) (hr : Ps s n r) (w : World) :
    Calls Tryd.prog 19 #[.string s, .int .i64 n, .string W] w fun e w' => e = .returned (.bool (wd W.data.toList r)) ∧ Below w.heap.size w w' := by
  have hn := hr.le
  have hlen := hr.len
  have hWl : W.data.toList.length = W.size := by simp
  by_cases hl : r.length < W.size
  · have HD : Hid (wd W.data.toList r = false) := wd_short _ _ (by omega)
    have h1 : ¬ (n + W.size ≤ s.size) := by omega
    have h2 : ¬ ((n : Int) + W.size ≤ s.size) := by omega
    clear hr hWl
    rw [HD.out]
    go_enter Tryd.func19, Tryd.ntmps19
    go_wp2
    go_ret
    exact ⟨rfl, Below.refl _ _⟩
  · have h1 : n + W.size ≤ s.size := by omega
    have h2 : (n : Int) + W.size ≤ s.size := by omega
    have hX : (s.extract n (n + W.size)).data.toList = r.take W.size := by
      rw [Lib.extract_data, hr.eq]
      congr 1
      omega
    have LO : Hid (∀ w, Calls Tryd.prog 42 #[.string (s.extract n (n + W.size))] w fun e w' => e = .returned (.string ⟨(lwr (r.take W.size)).toArray⟩) ∧ Below w.heap.size w w') := fun w => by
      have := refLower_calls (s.extract n (n + W.size)) (by simp; omega) w
      rwa [hX] at this
    have HWD : Hid (((⟨(lwr (r.take W.size)).toArray⟩ : ByteArray).toList == W.toList) = wd W.data.toList r) := by
      unfold Hid
      rw [ba_eq, wd_long _ _ (by omega), hWl]; rfl
    generalize (⟨(lwr (r.take W.size)).toArray⟩ : ByteArray) = LX at *
    clear hr hX hWl
    go_enter Tryd.func19, Tryd.ntmps19
    go_wp2_with fail
    refine (LO.out _).mono ?_
    rintro e w1 ⟨rfl, hb1⟩
    go_wp2
    go_ret
    exact ⟨ret_bool HWD.out, hb1⟩

theorem spaceB_calls (c : UInt8) (w : World) : Calls Tryd.prog 43 #[.int .u8 (c.toNat : Nat)] w fun e w' => e = .returned (.bool (bsp c)) ∧ w = w' := by
  have hc : ((c.toNat : Nat) : Int) < 256 := by have := c.toNat_lt; omega
  have HS : Hid (∀ w, Calls Tryd.prog 49 #[.int .i32 (c.toNat : Nat)] w fun e w' => e = .returned (.bool (bsp c)) ∧ w = w') := fun w => spaceR_calls _ w
  generalize bsp c = b at *
  go_enter Tryd.func43, Tryd.ntmps43
  go_wp2_with fail
  refine (HS.out _).mono ?_
  rintro e w' ⟨rfl, rfl⟩
  go_wp2
  go_ret
  exact ⟨rfl, rfl⟩

/-- cdata, from a place on. -/
theorem ci_eq (s : ByteArray) (p : Nat) (c : UInt8) (r : List UInt8) (hps : Ps s p (c :: r)) (h : p + 3 ≤ s.size) : ((s.extract p (p + 3)).toList == [93, 93, 62]) = [93, 93, 62].isPrefixOf (c :: r) := by
  rw [Lib.toList_data, Lib.extract_data, hps.eq, show p + 3 - p = 3 by omega]
  have hl := hps.len
  match r, hl with
  | [], hl => simp at hl; omega
  | [d], hl => simp at hl; omega
  | d :: e :: r, hl =>
    rw [Bool.eq_iff_iff]
    simp [List.isPrefixOf]
    constructor
    · rintro ⟨rfl, rfl, rfl⟩; exact ⟨rfl, rfl, rfl⟩
    · rintro ⟨h1, h2, h3⟩; exact ⟨h1.symm, h2.symm, h3.symm⟩
theorem ci_short (r : List UInt8) (h : r.length < 3) : ci r = none := by
  match r, h with
  | [], _ => rfl
  | [a], _ => simp [ci, List.isPrefixOf]
  | [a, b], _ => simp [ci, List.isPrefixOf]
theorem cdt_some (r : List UInt8) (i : Nat) (h : ci r = some i) : cdt r = (r.take i, i + 3, true) := by
  unfold cdt; rw [ci_index, h]; simp
theorem cdt_none (r : List UInt8) (h : ci r = none) : cdt r = (r, r.length, false) := by
  unfold cdt; rw [ci_index, h]; simp

set_option maxRecDepth 100000 in
set_option maxHeartbeats 1000000 in
theorem cdataR_calls (s : ByteArray) (n : Nat) (r : List UInt8) (hs : s.size ≤ 268435456) (hr : Ps s n r) (w : World) :
    Calls Tryd.prog 22 #[.string s, .int .i64 n] w (TR w { kind := 1, text := (cdt r).1 } (n + (cdt r).2.1) (cdt r).2.2) := by
  have hn := hr.le
  have HR := Lib.hid hr
  obtain ⟨R, hR⟩ : ∃ R, cdt r = R := ⟨_, rfl⟩
  rw [hR]
  have HRR := Lib.hid hR
  clear hr hR
  go_enter Tryd.func22, Tryd.ntmps22
  have HT0 := Lib.hid (Tb.new w)
  have hb0 : Below w.heap.size w (w.alloc (.cells #[.int .u8 0, .string ⟨#[]⟩, .slice none 0 0, .bool false, .string ⟨#[]⟩, .string ⟨#[]⟩, .string ⟨#[]⟩, .bool false, .bool false, .bool false] 26)) := (Below.refl _ w).alloc (Nat.le_refl _) _
  have HB0 := Lib.hid hb0
  clear hb0
  go_wp2
  generalize hW1 : World.alloc _ _ = W1 at *
  clear hW1
  go_loop [7] (fun v => ∃ (p : Nat) (r' : List UInt8), v = .int .i64 p ∧ n ≤ p ∧ p ≤ s.size ∧ Ps s p r' ∧ Hid (ci r = (ci r').map (· + (p - n)))) (fun v => s.size - (intOf v).toNat)
  case atStart => exact ⟨n, r, rfl, Nat.le_refl _, hn, HR.out, by unfold Hid; rw [Nat.sub_self]; simp⟩
  case round =>
    obtain ⟨p, r', rfl, hnp, hp, hps, HQ⟩ := hrel
    obtain ⟨d0, d1, d2, d3, d4, d5, d6, d7, d8, d9, dz⟩ := HT0.out.cs
    have hpl := hps.len
    have hrl := HR.out.len
    by_cases h3 : p + 3 ≤ s.size
    · have h3' : (p : Int) + 3 ≤ s.size := by omega
      match r', hps, HQ, hpl with
      | [], hps, HQ, hpl => simp at hpl; omega
      | c :: r2, hps, HQ, hpl =>
        have hcmp := ci_eq s p c r2 hps h3
        obtain ⟨_, _, hps2⟩ := hps.cons
        have HP := Lib.hid hps2
        by_cases hpre : [93, 93, 62].isPrefixOf (c :: r2) = true
        · rw [hpre] at hcmp
          have hci : ci r = some (p - n) := by rw [HQ.out, ci, if_pos hpre]; simp
          have HX : Hid (s.extract n p = ⟨(r.take (p - n)).toArray⟩) := by
            unfold Hid
            have : (s.extract n p).data.toList = r.take (p - n) := by rw [Lib.extract_data, HR.out.eq]
            rw [← this]
          have HF : Hid (R = (r.take (p - n), p - n + 3, true)) := by unfold Hid; rw [← HRR.out]; exact cdt_some _ _ hci
          clear hps hps2 hpre hci hpl hrl
          go_wp2
          rw [HX.out]
          generalize hW3 : World.setCell _ _ _ = W3
          have hR3 : Tb w.heap.size { kind := 1, text := r.take (p - n) } W3 := by rw [← hW3]; exact set10 HT0.out _ _ _ _ _ _ _ _ _ _
          have hB3 : Below w.heap.size w W3 := by rw [← hW3]; exact below_sets HB0.out (Nat.le_refl _) _ _ _ _ _ _ _ _ _ _
          rw [HF.out]
          refine bodyPost_ret (results_tok rfl rfl hR3) rfl ⟨?_, hB3⟩
          refine tok_end ?_
          show (p : Int) + 3 = (n : Int) + ((p - n + 3 : Nat) : Int)
          omega
        · have hpre' : [93, 93, 62].isPrefixOf (c :: r2) = false := Bool.eq_false_iff.2 hpre
          rw [hpre'] at hcmp
          have HQ2 : Hid (ci r = (ci r2).map (· + (p + 1 - n))) := by
            unfold Hid
            rw [HQ.out, ci, if_neg hpre, Option.map_map]
            congr 1
            funext x
            simp; omega
          clear hps hps2 hpre hpre' hpl hrl
          go_wp2
          go_round
          case rel => exact ⟨p + 1, r2, by go_num, by omega, by omega, HP.out, HQ2.out⟩
          case measure => simp [intOf]; omega
    · have h3' : ¬ ((p : Int) + 3 ≤ s.size) := by omega
      have hci : ci r = none := by rw [HQ.out, ci_short r' (by omega)]; rfl
      have HX : Hid (s.extract n s.size = ⟨r.toArray⟩) := by
        unfold Hid
        have : (s.extract n s.size).data.toList = r := by
          rw [Lib.extract_data, HR.out.eq]
          exact List.take_of_length_le (by omega)
        rw [← this]
      have HF : Hid (R = (r, r.length, false)) := by unfold Hid; rw [← HRR.out]; exact cdt_none _ hci
      have HL := Lib.hid hrl
      clear hps hci hpl hrl
      go_wp2
      rw [HX.out]
      generalize hW3 : World.setCell _ _ _ = W3
      have hR3 : Tb w.heap.size { kind := 1, text := r } W3 := by rw [← hW3]; exact set10 HT0.out _ _ _ _ _ _ _ _ _ _
      have hB3 : Below w.heap.size w W3 := by rw [← hW3]; exact below_sets HB0.out (Nat.le_refl _) _ _ _ _ _ _ _ _ _ _
      rw [HF.out]
      refine bodyPost_ret (results_tok rfl rfl hR3) rfl ⟨?_, hB3⟩
      refine tok_end ?_
      show (s.size : Int) = (n : Int) + (r.length : Int)
      have := HL.out
      omega
end Go.Proofs.YtileclmmobkcaaaDoor
