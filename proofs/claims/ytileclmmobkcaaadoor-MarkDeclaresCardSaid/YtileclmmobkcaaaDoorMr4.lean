/-
  A round of lacunaref04.doctype's states: state 4. The condition: the text takes at most 2 to the 24th bytes.
-/
import Derived.Test.YtileclmmobkcaaaDoorMr0
set_option linter.unusedVariables false
namespace Go.Proofs.YtileclmmobkcaaaDoor
open Go.RowKit Go.Shelf

set_option maxRecDepth 100000 in
set_option maxHeartbeats 200000000 in
theorem doctype_st4 (s : ByteArray) (n : Nat) (r : List UInt8) (hs : s.size ≤ 16777216) (hr : Ps s n r) (w : World) : (doctypeCap s n r hs hr w).1 4 := by
  unfold doctypeCap
  intro R K hK wr u5 u6 u11 u12 u13 u14 u15 u18 u19 u20 u21 u22 u23 u24 u25 u26 u27 u28 u29 u30 u31 u32 u33 u34 u35 u36 u37 u38 u39 u40 u41 u42 u43 u44 u45 u46 u47 u48 u49 u50 u51 u52 u53 u54 u55 u56 u57 u58 u59 u60 u61 u62 u63 u64 u65 u66 u67 u68 u69 u70 u71 u72 u73 u74 u75 u76 u77 u78 u79 u80 u81 u82 u83 u84 u85 u86 u87 u88 u89 u90 u91 u92 u93 u94 u95 u96 u97 u98 u99 u100 u101 u102 u103 u104 u105 u106 u107 u108 u109 u110 u111 u112 u113 u114 u115 u116 u117 u118 u119 u120 u121 u122 u123 u124 u125 u126 u127 u128 u129 u130 u131 u132 u133 u134 u135 u136 u137 u138 u139 u140 u141 u142 u143 u144 u145 u146 u147 u148 u149 u150 u151 u152 u153 u154 u155 u156 u157 u158 u159 u160 u161 u162 u163 u164 u165 u166 u167 u168 u169 u170 u171 u172 u173 u174 u175 u176 u177 u178 u179 u180 u181 u182 u183 u184 u185 u186 u187 u188 p q t hp hn1 hn2 hn3 HB HTt HTr hlt2 hlt3 hqn c r2 HQ hpl hx hplen hplt HP HP0 hcc FQ SP hwc HXN
  clear hr
  by_cases hbl : bsp c = true
  ·
    have hb : bsp c = true := hbl
    have hne : ¬ c = 62 := by rintro rfl; revert hbl; decide
    have h34 : ¬ c = 34 := by rintro rfl; revert hbl; decide
    have h39 : ¬ c = 39 := by rintro rfl; revert hbl; decide
    have hq : isQ c = false := by simp [isQ, h34, h39]
    have HCX := Lib.hid hbl
    clear hbl
    have f34' : (((s[p].toNat : Nat) : Int) == 34) = false := by rw [hx, b_of c 34 34 rfl _ rfl]; simpa using h34
    have f39' : (((s[p].toNat : Nat) : Int) == 39) = false := by rw [hx, b_of c 39 39 rfl _ rfl]; simpa using h39
    have f62' : (((s[p].toNat : Nat) : Int) == 62) = false := by rw [hx, b_of c 62 62 rfl _ rfl]; simpa using hne
    rw [hb] at SP
    have SPH := Lib.hid SP
    clear SP h34 h39
    have HQ2 : Hid (dR 0 4 q t (r2.drop 0) = R) := by
      unfold Hid
      rw [← HQ.out]
      exact (dR_go _ _ _ _ _ 0 4 q t (by simp [dS, hb, hq, hne])).symm
    clear hx hwc hb hq hne 
    go_wp2_with fail
    refine (SPH.out _).mono ?_
    rintro e w' ⟨rfl, rfl⟩
    go_wp2
    go_roundw
    case rel => exact DtR.mk (p + 1) 4 q t (r2) (by omega) (by first | rfl | omega | (rw [HXN.out])) (by omega) (by omega) (by decide) HP.out HQ2.out HTt.out HTr.out HB.out (by first | omega | (simp only [List.length_append]; omega)) (by first | omega | (simp only [List.length_append]; omega)) (by first | omega | (simp only [List.length_append]; omega))
    case measure => simp [intOf]; omega
  have hb : bsp c = false := Bool.eq_false_iff.2 hbl
  clear hbl
  by_cases h34 : c = 34
  ·
    have hne : ¬ c = 62 := by rw [h34]; decide
    have h39 : ¬ c = 39 := by rw [h34]; decide
    have hq : isQ c = true := by rw [h34]; rfl
    have f34' : (((s[p].toNat : Nat) : Int) == 34) = true := by rw [hx, b_of c 34 34 rfl _ rfl]; simpa using h34
    have f39' : (((s[p].toNat : Nat) : Int) == 39) = false := by rw [hx, b_of c 39 39 rfl _ rfl]; simpa using h39
    have f62' : (((s[p].toNat : Nat) : Int) == 62) = false := by rw [hx, b_of c 62 62 rfl _ rfl]; simpa using hne
    rw [hb] at SP
    have SPH := Lib.hid SP
    clear SP h34 h39
    have HQ2 : Hid (dR 0 5 c { t with hp := true } (r2.drop 0) = R) := by
      unfold Hid
      rw [← HQ.out]
      exact (dR_go _ _ _ _ _ 0 5 c { t with hp := true } (by simp [dS, hb, hq, hne])).symm
    have c7 := HTt.out.cs.c7
    have fz := HTt.out.cs.fz
    have HT3 := Lib.hid (HTt.out.setHP)
    have HT4 := Lib.hid (HTr.out.other (j := 7) (show w.heap.size ≠ w.heap.size + 1 by omega) (.bool true))
    have HB3 := Lib.hid (HB.out.setCell (p := ⟨w.heap.size + 1, 7, none⟩) (by simp) (.bool true))
    clear hx hwc hb hq hne 
    go_wp2_with fail
    refine (SPH.out _).mono ?_
    rintro e w' ⟨rfl, rfl⟩
    go_wp2
    go_roundw
    case rel => exact DtR.mk (p + 1) 5 c { t with hp := true } (r2) (by omega) (by first | rfl | omega | (rw [HXN.out])) (by omega) (by omega) (by decide) HP.out HQ2.out HT3.out HT4.out HB3.out (by first | omega | (simp only [List.length_append]; omega)) (by first | omega | (simp only [List.length_append]; omega)) (by first | omega | (simp only [List.length_append]; omega))
    case measure => simp [intOf]; omega
  by_cases h39 : c = 39
  ·
    have hne : ¬ c = 62 := by rw [h39]; decide
    have hq : isQ c = true := by rw [h39]; rfl
    have f34' : (((s[p].toNat : Nat) : Int) == 34) = false := by rw [hx, b_of c 34 34 rfl _ rfl]; simpa using h34
    have f39' : (((s[p].toNat : Nat) : Int) == 39) = true := by rw [hx, b_of c 39 39 rfl _ rfl]; simpa using h39
    have f62' : (((s[p].toNat : Nat) : Int) == 62) = false := by rw [hx, b_of c 62 62 rfl _ rfl]; simpa using hne
    rw [hb] at SP
    have SPH := Lib.hid SP
    clear SP h34 h39
    have HQ2 : Hid (dR 0 5 c { t with hp := true } (r2.drop 0) = R) := by
      unfold Hid
      rw [← HQ.out]
      exact (dR_go _ _ _ _ _ 0 5 c { t with hp := true } (by simp [dS, hb, hq, hne])).symm
    have c7 := HTt.out.cs.c7
    have fz := HTt.out.cs.fz
    have HT3 := Lib.hid (HTt.out.setHP)
    have HT4 := Lib.hid (HTr.out.other (j := 7) (show w.heap.size ≠ w.heap.size + 1 by omega) (.bool true))
    have HB3 := Lib.hid (HB.out.setCell (p := ⟨w.heap.size + 1, 7, none⟩) (by simp) (.bool true))
    clear hx hwc hb hq hne 
    go_wp2_with fail
    refine (SPH.out _).mono ?_
    rintro e w' ⟨rfl, rfl⟩
    go_wp2
    go_roundw
    case rel => exact DtR.mk (p + 1) 5 c { t with hp := true } (r2) (by omega) (by first | rfl | omega | (rw [HXN.out])) (by omega) (by omega) (by decide) HP.out HQ2.out HT3.out HT4.out HB3.out (by first | omega | (simp only [List.length_append]; omega)) (by first | omega | (simp only [List.length_append]; omega)) (by first | omega | (simp only [List.length_append]; omega))
    case measure => simp [intOf]; omega
  have hq : isQ c = false := by simp [isQ, h34, h39]
  by_cases hne : c = 62
  ·
    replace hne : (c = 62) = True := eq_true hne
    have f34' : (((s[p].toNat : Nat) : Int) == 34) = false := by rw [hx, b_of c 34 34 rfl _ rfl]; simpa using h34
    have f39' : (((s[p].toNat : Nat) : Int) == 39) = false := by rw [hx, b_of c 39 39 rfl _ rfl]; simpa using h39
    have f62' : (((s[p].toNat : Nat) : Int) == 62) = true := by rw [hx, b_of c 62 62 rfl _ rfl]; simpa using hne
    rw [hb] at SP
    have SPH := Lib.hid SP
    clear SP h34 h39
    have HQ2 : Hid (R = ({ t with q := true }, r2, true)) := by
      unfold Hid
      rw [← HQ.out]
      exact dR_stop _ _ _ _ _ _ (by simp [dS, hb, hq, hne])
    obtain ⟨c0, c1, c2, c3, c4, c5, c6, c7, c8, c9, fz⟩ := HTt.out.cs
    obtain ⟨d0, d1, d2, d3, d4, d5, d6, d7, d8, d9, dz⟩ := HTr.out.cs
    have HT4 := Lib.hid (HTr.out.other (j := 9) (show w.heap.size ≠ w.heap.size + 1 by omega) (.bool true))
    have HB3 := Lib.hid (HB.out.setCell (p := ⟨w.heap.size + 1, 9, none⟩) (by simp) (.bool true))
    clear hx hwc hb hq hne 
    go_wp2_with fail
    refine (SPH.out _).mono ?_
    rintro e w' ⟨rfl, rfl⟩
    go_wp2
    generalize hW3 : World.setCell _ _ _ = W3
    have hR3 : Tb w.heap.size { t with q := true } W3 := by rw [← hW3]; exact set10 HT4.out _ _ _ _ _ _ _ _ _ _
    have hB3 : Below w.heap.size w W3 := by rw [← hW3]; exact below_sets HB3.out (Nat.le_refl _) _ _ _ _ _ _ _ _ _ _
    rw [HQ2.out]
    refine bodyPost_ret (results_tok rfl rfl hR3) rfl ⟨?_, hB3⟩
    refine tok_end ?_
    show (p : Int) + 1 = ((s.size - r2.length : Nat) : Int)
    omega
  have f34' : (((s[p].toNat : Nat) : Int) == 34) = false := by rw [hx, b_of c 34 34 rfl _ rfl]; simpa using h34
  have f39' : (((s[p].toNat : Nat) : Int) == 39) = false := by rw [hx, b_of c 39 39 rfl _ rfl]; simpa using h39
  have f62' : (((s[p].toNat : Nat) : Int) == 62) = false := by rw [hx, b_of c 62 62 rfl _ rfl]; simpa using hne
  rw [hb] at SP
  have SPH := Lib.hid SP
  clear SP h34 h39
  have HQ2 : Hid (dR 0 10 q { t with q := true } (r2.drop 0) = R) := by
    unfold Hid
    rw [← HQ.out]
    exact (dR_go _ _ _ _ _ 0 10 q { t with q := true } (by simp [dS, hb, hq, hne])).symm
  have c9 := HTt.out.cs.c9
  have fz := HTt.out.cs.fz
  have HT3 := Lib.hid (HTt.out.setQ)
  have HT4 := Lib.hid (HTr.out.other (j := 9) (show w.heap.size ≠ w.heap.size + 1 by omega) (.bool true))
  have HB3 := Lib.hid (HB.out.setCell (p := ⟨w.heap.size + 1, 9, none⟩) (by simp) (.bool true))
  clear hx hwc hb hq hne 
  go_wp2_with fail
  refine (SPH.out _).mono ?_
  rintro e w' ⟨rfl, rfl⟩
  go_wp2
  go_roundw
  case rel => exact DtR.mk (p + 1) 10 q { t with q := true } (r2) (by omega) (by first | rfl | omega | (rw [HXN.out])) (by omega) (by omega) (by decide) HP.out HQ2.out HT3.out HT4.out HB3.out (by first | omega | (simp only [List.length_append]; omega)) (by first | omega | (simp only [List.length_append]; omega)) (by first | omega | (simp only [List.length_append]; omega))
  case measure => simp [intOf]; omega
end Go.Proofs.YtileclmmobkcaaaDoor
