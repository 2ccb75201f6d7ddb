/-
  A round of lacunaref04.doctype's states: state 1. The condition: the text takes at most 2 to the 24th bytes.
-/
import Derived.Test.YtileclmmobkcaaaDoorMr0
set_option linter.unusedVariables false
namespace Go.Proofs.YtileclmmobkcaaaDoor
open Go.RowKit Go.Shelf

set_option maxRecDepth 100000 in
set_option maxHeartbeats 200000000 in
theorem doctype_st1 (s : ByteArray) (n : Nat) (r : List UInt8) (hs : s.size ≤ 16777216) (hr : Ps s n r) (w : World) : (doctypeCap s n r hs hr w).1 1 := by
  unfold doctypeCap
  intro R K hK wr u5 u6 u11 u12 u13 u14 u15 u18 u19 u20 u21 u22 u23 u24 u25 u26 u27 u28 u29 u30 u31 u32 u33 u34 u35 u36 u37 u38 u39 u40 u41 u42 u43 u44 u45 u46 u47 u48 u49 u50 u51 u52 u53 u54 u55 u56 u57 u58 u59 u60 u61 u62 u63 u64 u65 u66 u67 u68 u69 u70 u71 u72 u73 u74 u75 u76 u77 u78 u79 u80 u81 u82 u83 u84 u85 u86 u87 u88 u89 u90 u91 u92 u93 u94 u95 u96 u97 u98 u99 u100 u101 u102 u103 u104 u105 u106 u107 u108 u109 u110 u111 u112 u113 u114 u115 u116 u117 u118 u119 u120 u121 u122 u123 u124 u125 u126 u127 u128 u129 u130 u131 u132 u133 u134 u135 u136 u137 u138 u139 u140 u141 u142 u143 u144 u145 u146 u147 u148 u149 u150 u151 u152 u153 u154 u155 u156 u157 u158 u159 u160 u161 u162 u163 u164 u165 u166 u167 u168 u169 u170 u171 u172 u173 u174 u175 u176 u177 u178 u179 u180 u181 u182 u183 u184 u185 u186 u187 u188 p q t hp hn1 hn2 hn3 HB HTt HTr hlt2 hlt3 hqn c r2 HQ hpl hx hplen hplt HP HP0 hcc FQ SP hwc HXN
  clear hr
  by_cases hbl : bsp c = true
  ·
    have hb : bsp c = true := hbl
    have hne : ¬ c = 62 := by rintro rfl; revert hbl; decide
    have h34 : ¬ c = 34 := by rintro rfl; revert hbl; decide
    have h39 : ¬ c = 39 := by rintro rfl; revert hbl; decide
    have hq : isQ c = false := by simp [isQ, h34, h39]
    have HCX := Lib.hid hbl
    clear hbl
    have f34' : (((s[p].toNat : Nat) : Int) == 34) = false := by rw [hx, b_of c 34 34 rfl _ rfl]; simpa using h34
    have f39' : (((s[p].toNat : Nat) : Int) == 39) = false := by rw [hx, b_of c 39 39 rfl _ rfl]; simpa using h39
    have f62' : (((s[p].toNat : Nat) : Int) == 62) = false := by rw [hx, b_of c 62 62 rfl _ rfl]; simpa using hne
    rw [hb] at SP
    have SPH := Lib.hid SP
    clear SP h34 h39
    have HQ2 : Hid (dR 0 1 q t (r2.drop 0) = R) := by
      unfold Hid
      rw [← HQ.out]
      exact (dR_go _ _ _ _ _ 0 1 q t (by simp [dS, hb, hq, hne])).symm
    clear hx hwc hb hq hne 
    go_wp2_with fail
    refine (SPH.out _).mono ?_
    rintro e w' ⟨rfl, rfl⟩
    go_wp2
    go_roundw
    case rel => exact DtR.mk (p + 1) 1 q t (r2) (by omega) (by first | rfl | omega | (rw [HXN.out])) (by omega) (by omega) (by decide) HP.out HQ2.out HTt.out HTr.out HB.out (by first | omega | (simp only [List.length_append]; omega)) (by first | omega | (simp only [List.length_append]; omega)) (by first | omega | (simp only [List.length_append]; omega))
    case measure => simp [intOf]; omega
  have hb : bsp c = false := Bool.eq_false_iff.2 hbl
  clear hbl
  by_cases h34 : c = 34
  ·
    have hne : ¬ c = 62 := by rw [h34]; decide
    have h39 : ¬ c = 39 := by rw [h34]; decide
    have hq : isQ c = true := by rw [h34]; rfl
    have f34' : (((s[p].toNat : Nat) : Int) == 34) = true := by rw [hx, b_of c 34 34 rfl _ rfl]; simpa using h34
    have f39' : (((s[p].toNat : Nat) : Int) == 39) = false := by rw [hx, b_of c 39 39 rfl _ rfl]; simpa using h39
    have f62' : (((s[p].toNat : Nat) : Int) == 62) = false := by rw [hx, b_of c 62 62 rfl _ rfl]; simpa using hne
    rw [hb] at SP
    have SPH := Lib.hid SP
    clear SP h34 h39
    have HQ2 : Hid (dR 0 2 q { t with name := whB (lwB c) } (r2.drop 0) = R) := by
      unfold Hid
      rw [← HQ.out]
      exact (dR_go _ _ _ _ _ 0 2 q { t with name := whB (lwB c) } (by simp [dS, hb, hq, hne])).symm
    obtain ⟨Y, hY⟩ : ∃ Y : ByteArray, (⟨#[lwB c]⟩ : ByteArray) = Y := ⟨_, rfl⟩
    have LO : Hid (∀ w, Calls Tryd.prog 42 #[.string (s.extract p (p + 1))] w fun e w' => e = .returned (.string Y) ∧ Below w.heap.size w w') := fun w => by
      have hX1 : (s.extract p (p + 1)).data.toList = [c] := by
        rw [Lib.extract_data, HP0.out.eq, show p + 1 - p = 1 by omega]; rfl
      have := refLower_calls (s.extract p (p + 1)) (by simp; omega) w
      rw [hX1] at this
      rw [← hY]
      exact this
    have hYs : 0 < Y.size := by rw [← hY]; exact Nat.one_pos
    have hYs' : (0 : Int) < (Y.size : Int) := by omega
    have hY0 : Y[0] = lwB c := by subst hY; rfl
    have AD : Hid (∀ w, Calls Tryd.prog 25 #[.string ⟨#[]⟩, .int .u8 (Y[0].toNat : Nat)] w fun e w' => e = .returned (.string ⟨(whB (lwB c)).toArray⟩) ∧ Below w.heap.size w w') := fun w => by
      have := add_calls ⟨#[]⟩ Y[0] (by decide) w
      rw [hY0] at this ⊢
      exact this
    have hwl := whB_le (lwB c)
    have HY0 := Lib.hid hY0
    clear hY hY0
    clear hx hwc hb hq hne 
    go_wp2_with fail
    refine (SPH.out _).mono ?_
    rintro e w' ⟨rfl, rfl⟩
    go_wp2_with fail
    refine (LO.out _).mono ?_
    rintro e w1 ⟨rfl, hb1⟩
    go_wp2_with fail
    refine (AD.out _).mono ?_
    rintro e w2 ⟨rfl, hb2⟩
    replace hb1 := hb1.trans (hb2.mono hb1.size)
    have hT2 := HTt.out.below hb1 hlt2
    have e1 := hT2.cs.c1
    have ez := hT2.cs.fz
    have HB2 := Lib.hid (HB.out.trans (hb1.mono HB.out.size))
    have HT3 := Lib.hid (hT2.setN (whB (lwB c)))
    have HT4 := Lib.hid ((HTr.out.below hb1 hlt3).other (j := 1) (show w.heap.size ≠ w.heap.size + 1 by omega) (.string ⟨(whB (lwB c)).toArray⟩))
    have HB3 := Lib.hid (HB2.out.setCell (p := ⟨w.heap.size + 1, 1, none⟩) (by simp) (.string ⟨(whB (lwB c)).toArray⟩))
    clear hb1 hb2 hT2
    go_wp2
    go_roundw
    case rel => exact DtR.mk (p + 1) 2 q { t with name := whB (lwB c) } (r2) (by omega) (by first | rfl | omega | (rw [HXN.out])) (by omega) (by omega) (by decide) HP.out HQ2.out HT3.out HT4.out HB3.out (by first | omega | (simp only [List.length_append]; omega)) (by first | omega | (simp only [List.length_append]; omega)) (by first | omega | (simp only [List.length_append]; omega))
    case measure => simp [intOf]; omega
  by_cases h39 : c = 39
  ·
    have hne : ¬ c = 62 := by rw [h39]; decide
    have hq : isQ c = true := by rw [h39]; rfl
    have f34' : (((s[p].toNat : Nat) : Int) == 34) = false := by rw [hx, b_of c 34 34 rfl _ rfl]; simpa using h34
    have f39' : (((s[p].toNat : Nat) : Int) == 39) = true := by rw [hx, b_of c 39 39 rfl _ rfl]; simpa using h39
    have f62' : (((s[p].toNat : Nat) : Int) == 62) = false := by rw [hx, b_of c 62 62 rfl _ rfl]; simpa using hne
    rw [hb] at SP
    have SPH := Lib.hid SP
    clear SP h34 h39
    have HQ2 : Hid (dR 0 2 q { t with name := whB (lwB c) } (r2.drop 0) = R) := by
      unfold Hid
      rw [← HQ.out]
      exact (dR_go _ _ _ _ _ 0 2 q { t with name := whB (lwB c) } (by simp [dS, hb, hq, hne])).symm
    obtain ⟨Y, hY⟩ : ∃ Y : ByteArray, (⟨#[lwB c]⟩ : ByteArray) = Y := ⟨_, rfl⟩
    have LO : Hid (∀ w, Calls Tryd.prog 42 #[.string (s.extract p (p + 1))] w fun e w' => e = .returned (.string Y) ∧ Below w.heap.size w w') := fun w => by
      have hX1 : (s.extract p (p + 1)).data.toList = [c] := by
        rw [Lib.extract_data, HP0.out.eq, show p + 1 - p = 1 by omega]; rfl
      have := refLower_calls (s.extract p (p + 1)) (by simp; omega) w
      rw [hX1] at this
      rw [← hY]
      exact this
    have hYs : 0 < Y.size := by rw [← hY]; exact Nat.one_pos
    have hYs' : (0 : Int) < (Y.size : Int) := by omega
    have hY0 : Y[0] = lwB c := by subst hY; rfl
    have AD : Hid (∀ w, Calls Tryd.prog 25 #[.string ⟨#[]⟩, .int .u8 (Y[0].toNat : Nat)] w fun e w' => e = .returned (.string ⟨(whB (lwB c)).toArray⟩) ∧ Below w.heap.size w w') := fun w => by
      have := add_calls ⟨#[]⟩ Y[0] (by decide) w
      rw [hY0] at this ⊢
      exact this
    have hwl := whB_le (lwB c)
    have HY0 := Lib.hid hY0
    clear hY hY0
    clear hx hwc hb hq hne 
    go_wp2_with fail
    refine (SPH.out _).mono ?_
    rintro e w' ⟨rfl, rfl⟩
    go_wp2_with fail
    refine (LO.out _).mono ?_
    rintro e w1 ⟨rfl, hb1⟩
    go_wp2_with fail
    refine (AD.out _).mono ?_
    rintro e w2 ⟨rfl, hb2⟩
    replace hb1 := hb1.trans (hb2.mono hb1.size)
    have hT2 := HTt.out.below hb1 hlt2
    have e1 := hT2.cs.c1
    have ez := hT2.cs.fz
    have HB2 := Lib.hid (HB.out.trans (hb1.mono HB.out.size))
    have HT3 := Lib.hid (hT2.setN (whB (lwB c)))
    have HT4 := Lib.hid ((HTr.out.below hb1 hlt3).other (j := 1) (show w.heap.size ≠ w.heap.size + 1 by omega) (.string ⟨(whB (lwB c)).toArray⟩))
    have HB3 := Lib.hid (HB2.out.setCell (p := ⟨w.heap.size + 1, 1, none⟩) (by simp) (.string ⟨(whB (lwB c)).toArray⟩))
    clear hb1 hb2 hT2
    go_wp2
    go_roundw
    case rel => exact DtR.mk (p + 1) 2 q { t with name := whB (lwB c) } (r2) (by omega) (by first | rfl | omega | (rw [HXN.out])) (by omega) (by omega) (by decide) HP.out HQ2.out HT3.out HT4.out HB3.out (by first | omega | (simp only [List.length_append]; omega)) (by first | omega | (simp only [List.length_append]; omega)) (by first | omega | (simp only [List.length_append]; omega))
    case measure => simp [intOf]; omega
  have hq : isQ c = false := by simp [isQ, h34, h39]
  by_cases hne : c = 62
  ·
    replace hne : (c = 62) = True := eq_true hne
    have f34' : (((s[p].toNat : Nat) : Int) == 34) = false := by rw [hx, b_of c 34 34 rfl _ rfl]; simpa using h34
    have f39' : (((s[p].toNat : Nat) : Int) == 39) = false := by rw [hx, b_of c 39 39 rfl _ rfl]; simpa using h39
    have f62' : (((s[p].toNat : Nat) : Int) == 62) = true := by rw [hx, b_of c 62 62 rfl _ rfl]; simpa using hne
    rw [hb] at SP
    have SPH := Lib.hid SP
    clear SP h34 h39
    have HQ2 : Hid (R = ({ t with q := true }, r2, true)) := by
      unfold Hid
      rw [← HQ.out]
      exact dR_stop _ _ _ _ _ _ (by simp [dS, hb, hq, hne])
    obtain ⟨c0, c1, c2, c3, c4, c5, c6, c7, c8, c9, fz⟩ := HTt.out.cs
    obtain ⟨d0, d1, d2, d3, d4, d5, d6, d7, d8, d9, dz⟩ := HTr.out.cs
    have HT4 := Lib.hid (HTr.out.other (j := 9) (show w.heap.size ≠ w.heap.size + 1 by omega) (.bool true))
    have HB3 := Lib.hid (HB.out.setCell (p := ⟨w.heap.size + 1, 9, none⟩) (by simp) (.bool true))
    clear hx hwc hb hq hne 
    go_wp2_with fail
    refine (SPH.out _).mono ?_
    rintro e w' ⟨rfl, rfl⟩
    go_wp2
    generalize hW3 : World.setCell _ _ _ = W3
    have hR3 : Tb w.heap.size { t with q := true } W3 := by rw [← hW3]; exact set10 HT4.out _ _ _ _ _ _ _ _ _ _
    have hB3 : Below w.heap.size w W3 := by rw [← hW3]; exact below_sets HB3.out (Nat.le_refl _) _ _ _ _ _ _ _ _ _ _
    rw [HQ2.out]
    refine bodyPost_ret (results_tok rfl rfl hR3) rfl ⟨?_, hB3⟩
    refine tok_end ?_
    show (p : Int) + 1 = ((s.size - r2.length : Nat) : Int)
    omega
  have f34' : (((s[p].toNat : Nat) : Int) == 34) = false := by rw [hx, b_of c 34 34 rfl _ rfl]; simpa using h34
  have f39' : (((s[p].toNat : Nat) : Int) == 39) = false := by rw [hx, b_of c 39 39 rfl _ rfl]; simpa using h39
  have f62' : (((s[p].toNat : Nat) : Int) == 62) = false := by rw [hx, b_of c 62 62 rfl _ rfl]; simpa using hne
  rw [hb] at SP
  have SPH := Lib.hid SP
  clear SP h34 h39
  have HQ2 : Hid (dR 0 2 q { t with name := whB (lwB c) } (r2.drop 0) = R) := by
    unfold Hid
    rw [← HQ.out]
    exact (dR_go _ _ _ _ _ 0 2 q { t with name := whB (lwB c) } (by simp [dS, hb, hq, hne])).symm
  obtain ⟨Y, hY⟩ : ∃ Y : ByteArray, (⟨#[lwB c]⟩ : ByteArray) = Y := ⟨_, rfl⟩
  have LO : Hid (∀ w, Calls Tryd.prog 42 #[.string (s.extract p (p + 1))] w fun e w' => e = .returned (.string Y) ∧ Below w.heap.size w w') := fun w => by
    have hX1 : (s.extract p (p + 1)).data.toList = [c] := by
      rw [Lib.extract_data, HP0.out.eq, show p + 1 - p = 1 by omega]; rfl
    have := refLower_calls (s.extract p (p + 1)) (by simp; omega) w
    rw [hX1] at this
    rw [← hY]
    exact this
  have hYs : 0 < Y.size := by rw [← hY]; exact Nat.one_pos
  have hYs' : (0 : Int) < (Y.size : Int) := by omega
  have hY0 : Y[0] = lwB c := by subst hY; rfl
  have AD : Hid (∀ w, Calls Tryd.prog 25 #[.string ⟨#[]⟩, .int .u8 (Y[0].toNat : Nat)] w fun e w' => e = .returned (.string ⟨(whB (lwB c)).toArray⟩) ∧ Below w.heap.size w w') := fun w => by
    have := add_calls ⟨#[]⟩ Y[0] (by decide) w
    rw [hY0] at this ⊢
    exact this
  have hwl := whB_le (lwB c)
  have HY0 := Lib.hid hY0
  clear hY hY0
  clear hx hwc hb hq hne 
  go_wp2_with fail
  refine (SPH.out _).mono ?_
  rintro e w' ⟨rfl, rfl⟩
  go_wp2_with fail
  refine (LO.out _).mono ?_
  rintro e w1 ⟨rfl, hb1⟩
  go_wp2_with fail
  refine (AD.out _).mono ?_
  rintro e w2 ⟨rfl, hb2⟩
  replace hb1 := hb1.trans (hb2.mono hb1.size)
  have hT2 := HTt.out.below hb1 hlt2
  have e1 := hT2.cs.c1
  have ez := hT2.cs.fz
  have HB2 := Lib.hid (HB.out.trans (hb1.mono HB.out.size))
  have HT3 := Lib.hid (hT2.setN (whB (lwB c)))
  have HT4 := Lib.hid ((HTr.out.below hb1 hlt3).other (j := 1) (show w.heap.size ≠ w.heap.size + 1 by omega) (.string ⟨(whB (lwB c)).toArray⟩))
  have HB3 := Lib.hid (HB2.out.setCell (p := ⟨w.heap.size + 1, 1, none⟩) (by simp) (.string ⟨(whB (lwB c)).toArray⟩))
  clear hb1 hb2 hT2
  go_wp2
  go_roundw
  case rel => exact DtR.mk (p + 1) 2 q { t with name := whB (lwB c) } (r2) (by omega) (by first | rfl | omega | (rw [HXN.out])) (by omega) (by omega) (by decide) HP.out HQ2.out HT3.out HT4.out HB3.out (by first | omega | (simp only [List.length_append]; omega)) (by first | omega | (simp only [List.length_append]; omega)) (by first | omega | (simp only [List.length_append]; omega))
  case measure => simp [intOf]; omega
end Go.Proofs.YtileclmmobkcaaaDoor
