/-
  The contract of lacunaref01.Piece: it is the piece. The condition: some byte stands there.
-/
import Derived.Test.YteffnlelmcbgmaaDoorRfq
set_option linter.unusedVariables false
namespace Go.Proofs.YteffnlelmcbgmaaDoor
open Go.RowKit Go.Shelf

theorem most_is (l : List UInt8) (m : Nat) (h : ∀ j, 1 ≤ j → j ≤ m → bgs (l.take j) = true) (h1 : m ≤ l.length) (h2 : m ≤ 4) (h3 : m = 4 ∨ l.length < m + 1 ∨ bgs (l.take (m + 1)) = false) : most l = m := by
  unfold most
  match m, h2, h, h1, h3 with
  | 0, _, h, h1, h3 =>
    rw [if_neg]
    rintro ⟨a, b⟩
    rcases h3 with h | h | h
    · omega
    · omega
    · rw [h] at b; cases b
  | 1, _, h, h1, h3 =>
    rw [if_pos ⟨h1, h 1 (by omega) (by omega)⟩, if_neg]
    rintro ⟨a, b⟩
    rcases h3 with h | h | h
    · omega
    · omega
    · rw [h] at b; cases b
  | 2, _, h, h1, h3 =>
    rw [if_pos ⟨by omega, h 1 (by omega) (by omega)⟩, if_pos ⟨h1, h 2 (by omega) (by omega)⟩, if_neg]
    rintro ⟨a, b⟩
    rcases h3 with h | h | h
    · omega
    · omega
    · rw [h] at b; cases b
  | 3, _, h, h1, h3 =>
    rw [if_pos ⟨by omega, h 1 (by omega) (by omega)⟩, if_pos ⟨by omega, h 2 (by omega) (by omega)⟩, if_pos ⟨h1, h 3 (by omega) (by omega)⟩, if_neg]
    rintro ⟨a, b⟩
    rcases h3 with h | h | h
    · omega
    · omega
    · rw [h] at b; cases b
  | 4, _, h, h1, h3 =>
    rw [if_pos ⟨by omega, h 1 (by omega) (by omega)⟩, if_pos ⟨by omega, h 2 (by omega) (by omega)⟩, if_pos ⟨by omega, h 3 (by omega) (by omega)⟩, if_pos ⟨h1, h 4 (by omega) (by omega)⟩]

set_option maxRecDepth 100000 in
set_option maxHeartbeats 4000000 in
theorem pieceR_calls (s : ByteArray) (at_ : Nat) (hlt : at_ < s.size) (hs : s.size ≤ 1099511627776) (w : World) :
    Calls Tryd.prog 42 #[.string s, .int .i64 at_] w fun e w' =>
      e = .returned (.tuple #[.int .i64 (pc (s.data.toList.drop at_)).1, .int .i32 (rn (s.data.toList.drop at_)), .bool (pc (s.data.toList.drop at_)).2]) ∧ Below w.heap.size w w' := by
  obtain ⟨L0, hL⟩ : ∃ L0, s.data.toList.drop at_ = L0 := ⟨_, rfl⟩
  have hsl : s.data.toList.length = s.size := by simp
  have hll : L0.length = s.size - at_ := by rw [← hL]; simp
  have hne : L0 ≠ [] := by intro e; rw [e] at hll; simp at hll; omega
  have KEY : Hid (∀ (m : Nat) (v : Int) (ok : Bool), refP L0 = (m, v, ok) → Ending.returned (.tuple #[.int .i64 (m : Int), .int .i32 v, .bool ok]) = .returned (.tuple #[.int .i64 (pc L0).1, .int .i32 (rn L0), .bool (pc L0).2])) := by
    intro m v ok h
    rw [refP_pc L0 hne] at h
    cases h; rfl
  have REFSC : Hid (∀ (m : Nat) (v : Int) (ok : Bool), refP L0 = (m, v, ok) → 0 ≤ v ∧ v ≤ 1114111) := by
    intro m v ok h
    rw [refP_pc L0 hne] at h
    have := rn_sc L0 hne
    cases h
    exact ⟨this.1, this.2.1⟩
  have hg0 : L0.getD 0 0 = s[at_] := by rw [← hL, ← getD_get s at_ hlt]; simp [List.getD]
  obtain ⟨lgn, hlg⟩ : ∃ lgn, lg (L0.getD 0 0).toNat = lgn := ⟨_, rfl⟩
  have hlg4 : lgn ≤ 4 := by rw [← hlg]; exact lg_le _
  have HLG := Lib.hid hlg
  have HC : Hid ((L0.getD 0 0).toNat = s[at_].toNat) := by unfold Hid; rw [hg0]
  have HL : Hid (∀ w, Calls Tryd.prog 58 #[.int .u8 (s[at_].toNat : Nat)] w fun e w' => e = .returned (.int .i64 lgn) ∧ w' = w) := by
    intro w
    have h1 := long_calls s[at_].toNat s[at_].toNat_lt w
    have e : lg s[at_].toNat = lgn := by rw [← HC.out]; exact hlg
    rw [e] at h1
    exact h1
  rw [hL]
  have hL0 := Lib.hid hL
  clear hlg hg0 hL hne hsl
  go_enter Tryd.func42, Tryd.ntmps42
  go_wp2
  go_loopw [7, 8] (fun v7 v8 wr => ∃ m : Nat, m ≤ 4 ∧ m ≤ L0.length ∧ v7 = .int .i64 m ∧ v8 = .int .i64 ((m : Int) + 1) ∧ Below w.heap.size w wr ∧ Hid (∀ j, 1 ≤ j → j ≤ m → bgs (L0.take j) = true)) (fun v7 _ _ => 5 - (intOf v7).toNat)
  case atStart => exact ⟨0, by omega, by omega, rfl, rfl, Below.refl _ _, fun j h1 h2 => by omega⟩
  case round =>
    obtain ⟨m, hm4, hml0, rfl, rfl, hb, HU⟩ := hrel
    by_cases hm : m = 4
    · have HM := Lib.hid (most_is L0 m HU.out hml0 hm4 (.inl hm))
      have hmn : ¬ ((m : Int) + 1 ≤ 4) := by omega
      clear HU
      have hm0 : m ≠ 0 := by omega
      have hm0' : ((m : Int) == 0) = false := beq_eq_false_iff_ne.2 (by omega)
      have hml : ¬ (m < lgn) := by omega
      have hml' : ¬ ((m : Int) < lgn) := by omega
      have HR : Hid (refP L0 = (m, if m = 1 then ((L0.getD 0 0).toNat : Int) else (bnd (L0.take m) m m).1, true)) := by unfold Hid refP; rw [HM.out, if_neg hm0, HLG.out, if_neg hml]
      clear hml
      obtain rfl : m = 4 := by omega
      have HV := Lib.hid (REFSC.out _ _ _ HR.out)
      have HX : Hid (L0.take 4 = (s.extract at_ (at_ + 4)).data.toList) := by unfold Hid; rw [← hL0.out, Lib.extract_data, show at_ + 4 - at_ = 4 by omega]
      rw [if_neg (by omega), HX.out] at HR HV
      have hvr := HV.out
      go_wp2_with fail
      refine (HL.out _).mono ?_
      rintro e w' ⟨rfl, rfl⟩
      go_wp2_with fail
      refine (bounds4_calls (s.extract at_ (at_ + 4)) (by simp; omega) _).mono ?_
      rintro e w1 ⟨rfl, hb1⟩
      have hbf := hb.trans (hb1.mono hb.size)
      generalize (bnd (s.extract at_ (at_ + 4)).data.toList 4 4).1 = lo at *
      generalize (bnd (s.extract at_ (at_ + 4)).data.toList 4 4).2 = hi at *
      go_wp2
      go_ret3
      exact ⟨KEY.out _ _ _ HR.out, hbf⟩
    by_cases hml : s.size < at_ + m + 1
    · have HM := Lib.hid (most_is L0 m HU.out hml0 hm4 (.inr (.inl (by omega))))
      have hmn : ((m : Int) + 1 ≤ 4) := by omega
      have hmk : ¬ ((at_ : Int) + ((m : Int) + 1) ≤ s.size) := by omega
      clear HU hml
      by_cases hm0 : m = 0
      · have hm0' : ((m : Int) == 0) = true := by rw [hm0]; rfl
        have HR : Hid (refP L0 = (1, 65533, false)) := by unfold Hid refP; rw [HM.out, if_pos hm0]
        clear hm0
        go_wp2
        go_ret3
        exact ⟨KEY.out _ _ _ HR.out, hb⟩
      have hm0' : ((m : Int) == 0) = false := beq_eq_false_iff_ne.2 (by omega)
      by_cases hml : m < lgn
      · have hml' : (m : Int) < lgn := by omega
        have HR : Hid (refP L0 = (m, 65533, false)) := by unfold Hid refP; rw [HM.out, if_neg hm0, HLG.out, if_pos hml]
        clear hm0
        go_wp2_with fail
        refine (HL.out _).mono ?_
        rintro e w' ⟨rfl, rfl⟩
        go_wp2
        go_ret3
        exact ⟨KEY.out _ _ _ HR.out, hb⟩
      have hml' : ¬ ((m : Int) < lgn) := by omega
      have HR : Hid (refP L0 = (m, if m = 1 then ((L0.getD 0 0).toNat : Int) else (bnd (L0.take m) m m).1, true)) := by unfold Hid refP; rw [HM.out, if_neg hm0, HLG.out, if_neg hml]
      clear hml
      have hcases : m = 1 ∨ m = 2 ∨ m = 3 := by omega
      rcases hcases with hM1 | hM1 | hM1
      · have hM1' : ((m : Int) == 1) = true := by rw [hM1]; rfl
        have hw0 : s[at_].toNat < 256 := s[at_].toNat_lt
        have HR1 : Hid (refP L0 = (m, (s[at_].toNat : Int), true)) := by unfold Hid; rw [HR.out, if_pos hM1, HC.out]
        clear hm0 hM1
        go_wp2_with fail
        refine (HL.out _).mono ?_
        rintro e w' ⟨rfl, rfl⟩
        go_wp2
        go_ret3
        exact ⟨KEY.out _ _ _ HR1.out, hb⟩
      · obtain rfl : m = 2 := by omega
        have HV := Lib.hid (REFSC.out _ _ _ HR.out)
        have HX : Hid (L0.take 2 = (s.extract at_ (at_ + 2)).data.toList) := by unfold Hid; rw [← hL0.out, Lib.extract_data, show at_ + 2 - at_ = 2 by omega]
        rw [if_neg (by omega), HX.out] at HR HV
        have hvr := HV.out
        go_wp2_with fail
        refine (HL.out _).mono ?_
        rintro e w' ⟨rfl, rfl⟩
        go_wp2_with fail
        refine (bounds2_calls (s.extract at_ (at_ + 2)) (by simp; omega) _).mono ?_
        rintro e w1 ⟨rfl, hb1⟩
        have hbf := hb.trans (hb1.mono hb.size)
        generalize (bnd (s.extract at_ (at_ + 2)).data.toList 2 2).1 = lo at *
        generalize (bnd (s.extract at_ (at_ + 2)).data.toList 2 2).2 = hi at *
        go_wp2
        go_ret3
        exact ⟨KEY.out _ _ _ HR.out, hbf⟩
      · obtain rfl : m = 3 := by omega
        have HV := Lib.hid (REFSC.out _ _ _ HR.out)
        have HX : Hid (L0.take 3 = (s.extract at_ (at_ + 3)).data.toList) := by unfold Hid; rw [← hL0.out, Lib.extract_data, show at_ + 3 - at_ = 3 by omega]
        rw [if_neg (by omega), HX.out] at HR HV
        have hvr := HV.out
        go_wp2_with fail
        refine (HL.out _).mono ?_
        rintro e w' ⟨rfl, rfl⟩
        go_wp2_with fail
        refine (bounds3_calls (s.extract at_ (at_ + 3)) (by simp; omega) _).mono ?_
        rintro e w1 ⟨rfl, hb1⟩
        have hbf := hb.trans (hb1.mono hb.size)
        generalize (bnd (s.extract at_ (at_ + 3)).data.toList 3 3).1 = lo at *
        generalize (bnd (s.extract at_ (at_ + 3)).data.toList 3 3).2 = hi at *
        go_wp2
        go_ret3
        exact ⟨KEY.out _ _ _ HR.out, hbf⟩
    have hmn : ((m : Int) + 1 ≤ 4) := by omega
    have hmk : ((at_ : Int) + ((m : Int) + 1) ≤ s.size) := by omega
    have htn : ((at_ : Int) + ((m : Int) + 1)).toNat = at_ + (m + 1) := by omega
    have HX0 : Hid (L0.take (m + 1) = (s.extract at_ (at_ + (m + 1))).data.toList) := by unfold Hid; rw [← hL0.out, Lib.extract_data, show at_ + (m + 1) - at_ = m + 1 by omega]
    have HBG : Hid (∀ w, Calls Tryd.prog 57 #[.string (s.extract at_ (at_ + (m + 1)))] w fun e w' => e = .returned (.bool (bgs (L0.take (m + 1)))) ∧ Below w.heap.size w w') := by
      intro w
      have := begins_calls (s.extract at_ (at_ + (m + 1))) (by simp; omega) (by simp; omega) w
      rwa [← HX0.out] at this
    go_wp2_with fail
    refine (HBG.out _).mono ?_
    rintro e w1 ⟨rfl, hb1⟩
    have hb2 := hb.trans (hb1.mono hb.size)
    clear hb hb1 HBG htn HX0
    cases hbg : bgs (L0.take (m + 1)) with
    | true =>
      have HB := Lib.hid hbg
      clear hbg
      go_wp2
      refine ⟨⟨m + 1, by omega, by omega, by go_num, by go_num, hb2, fun j h1 h2 => ?_⟩, by simp [intOf]; omega⟩
      by_cases e : j = m + 1
      · rw [e]; exact HB.out
      · exact HU.out j h1 (by omega)
    | false =>
      have HM := Lib.hid (most_is L0 m HU.out hml0 hm4 (.inr (.inr hbg)))
      have hb := hb2
      clear HU hbg hb2 hml
      by_cases hm0 : m = 0
      · have hm0' : ((m : Int) == 0) = true := by rw [hm0]; rfl
        have HR : Hid (refP L0 = (1, 65533, false)) := by unfold Hid refP; rw [HM.out, if_pos hm0]
        clear hm0
        go_wp2
        go_ret3
        exact ⟨KEY.out _ _ _ HR.out, hb⟩
      have hm0' : ((m : Int) == 0) = false := beq_eq_false_iff_ne.2 (by omega)
      by_cases hml : m < lgn
      · have hml' : (m : Int) < lgn := by omega
        have HR : Hid (refP L0 = (m, 65533, false)) := by unfold Hid refP; rw [HM.out, if_neg hm0, HLG.out, if_pos hml]
        clear hm0
        go_wp2_with fail
        refine (HL.out _).mono ?_
        rintro e w' ⟨rfl, rfl⟩
        go_wp2
        go_ret3
        exact ⟨KEY.out _ _ _ HR.out, hb⟩
      have hml' : ¬ ((m : Int) < lgn) := by omega
      have HR : Hid (refP L0 = (m, if m = 1 then ((L0.getD 0 0).toNat : Int) else (bnd (L0.take m) m m).1, true)) := by unfold Hid refP; rw [HM.out, if_neg hm0, HLG.out, if_neg hml]
      clear hml
      have hcases : m = 1 ∨ m = 2 ∨ m = 3 := by omega
      rcases hcases with hM1 | hM1 | hM1
      · have hM1' : ((m : Int) == 1) = true := by rw [hM1]; rfl
        have hw0 : s[at_].toNat < 256 := s[at_].toNat_lt
        have HR1 : Hid (refP L0 = (m, (s[at_].toNat : Int), true)) := by unfold Hid; rw [HR.out, if_pos hM1, HC.out]
        clear hm0 hM1
        go_wp2_with fail
        refine (HL.out _).mono ?_
        rintro e w' ⟨rfl, rfl⟩
        go_wp2
        go_ret3
        exact ⟨KEY.out _ _ _ HR1.out, hb⟩
      · obtain rfl : m = 2 := by omega
        have HV := Lib.hid (REFSC.out _ _ _ HR.out)
        have HX : Hid (L0.take 2 = (s.extract at_ (at_ + 2)).data.toList) := by unfold Hid; rw [← hL0.out, Lib.extract_data, show at_ + 2 - at_ = 2 by omega]
        rw [if_neg (by omega), HX.out] at HR HV
        have hvr := HV.out
        go_wp2_with fail
        refine (HL.out _).mono ?_
        rintro e w' ⟨rfl, rfl⟩
        go_wp2_with fail
        refine (bounds2_calls (s.extract at_ (at_ + 2)) (by simp; omega) _).mono ?_
        rintro e w1 ⟨rfl, hb1⟩
        have hbf := hb.trans (hb1.mono hb.size)
        generalize (bnd (s.extract at_ (at_ + 2)).data.toList 2 2).1 = lo at *
        generalize (bnd (s.extract at_ (at_ + 2)).data.toList 2 2).2 = hi at *
        go_wp2
        go_ret3
        exact ⟨KEY.out _ _ _ HR.out, hbf⟩
      · obtain rfl : m = 3 := by omega
        have HV := Lib.hid (REFSC.out _ _ _ HR.out)
        have HX : Hid (L0.take 3 = (s.extract at_ (at_ + 3)).data.toList) := by unfold Hid; rw [← hL0.out, Lib.extract_data, show at_ + 3 - at_ = 3 by omega]
        rw [if_neg (by omega), HX.out] at HR HV
        have hvr := HV.out
        go_wp2_with fail
        refine (HL.out _).mono ?_
        rintro e w' ⟨rfl, rfl⟩
        go_wp2_with fail
        refine (bounds3_calls (s.extract at_ (at_ + 3)) (by simp; omega) _).mono ?_
        rintro e w1 ⟨rfl, hb1⟩
        have hbf := hb.trans (hb1.mono hb.size)
        generalize (bnd (s.extract at_ (at_ + 3)).data.toList 3 3).1 = lo at *
        generalize (bnd (s.extract at_ (at_ + 3)).data.toList 3 3).2 = hi at *
        go_wp2
        go_ret3
        exact ⟨KEY.out _ _ _ HR.out, hbf⟩
end Go.Proofs.YteffnlelmcbgmaaDoor
