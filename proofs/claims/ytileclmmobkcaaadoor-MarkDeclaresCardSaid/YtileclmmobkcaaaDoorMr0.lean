/-
  The contract of the document's answer (lacunaref04): doctype. The condition: the text takes at most 2 to the 24th bytes.
-/
import Derived.Test.YtileclmmobkcaaaDoorMrd
set_option linter.unusedVariables false
namespace Go.Proofs.YtileclmmobkcaaaDoor
open Go.RowKit Go.Shelf

theorem Tb.setP {b : Nat} {t : Tk} {w : World} (h : Tb b t w) (x : List UInt8) : Tb b { t with pub := x } (w.setCell ⟨b, 5, none⟩ (.string ⟨x.toArray⟩)) := by
  unfold Tb tkCells at h ⊢
  simp [World.setCell, Array.getElem?_modify, h]
theorem Tb.setS {b : Nat} {t : Tk} {w : World} (h : Tb b t w) (x : List UInt8) : Tb b { t with sys := x } (w.setCell ⟨b, 6, none⟩ (.string ⟨x.toArray⟩)) := by
  unfold Tb tkCells at h ⊢
  simp [World.setCell, Array.getElem?_modify, h]
theorem Tb.setN {b : Nat} {t : Tk} {w : World} (h : Tb b t w) (x : List UInt8) : Tb b { t with name := x } (w.setCell ⟨b, 1, none⟩ (.string ⟨x.toArray⟩)) := by
  unfold Tb tkCells at h ⊢
  simp [World.setCell, Array.getElem?_modify, h]
theorem Tb.setHP {b : Nat} {t : Tk} {w : World} (h : Tb b t w) : Tb b { t with hp := true } (w.setCell ⟨b, 7, none⟩ (.bool true)) := by
  unfold Tb tkCells at h ⊢
  simp [World.setCell, Array.getElem?_modify, h]
theorem Tb.setHS {b : Nat} {t : Tk} {w : World} (h : Tb b t w) : Tb b { t with hs := true } (w.setCell ⟨b, 8, none⟩ (.bool true)) := by
  unfold Tb tkCells at h ⊢
  simp [World.setCell, Array.getElem?_modify, h]
theorem Tb.setQ {b : Nat} {t : Tk} {w : World} (h : Tb b t w) : Tb b { t with q := true } (w.setCell ⟨b, 9, none⟩ (.bool true)) := by
  unfold Tb tkCells at h ⊢
  simp [World.setCell, Array.getElem?_modify, h]

/-- What a round of the states hands on. -/
def DtR (s : ByteArray) (w : World) (R : Tk × List UInt8 × Bool) (v8 v9 v10 : Value) (wr : World) : Prop :=
  ∃ (p st : Nat) (q : UInt8) (t : Tk) (r' : List UInt8), v8 = .int .i64 st ∧ v9 = .int .u8 (q.toNat : Nat) ∧ v10 = .int .i64 p ∧ p ≤ s.size ∧ st ∈ [1, 2, 3, 4, 5, 7, 8, 9, 10, 11] ∧ Ps s p r' ∧ Hid (dR 0 st q t r' = R) ∧ Tb (w.heap.size + 1) t wr ∧ Tb w.heap.size { kind := 0 } wr ∧ Below w.heap.size w wr ∧
    t.name.length ≤ 3 * p ∧ t.pub.length ≤ 3 * p ∧ t.sys.length ≤ 3 * p
theorem DtR.mk {s : ByteArray} {w : World} {R : Tk × List UInt8 × Bool} {wr : World} {j k z : Int} (p st : Nat) (q : UInt8) (t : Tk) (r' : List UInt8) (hj : j = ((st : Nat) : Int)) (hz : z = ((q.toNat : Nat) : Int)) (hk : k = ((p : Nat) : Int)) (h1 : p ≤ s.size) (h2 : st ∈ [1, 2, 3, 4, 5, 7, 8, 9, 10, 11]) (h3 : Ps s p r') (h4 : Hid (dR 0 st q t r' = R)) (h5 : Tb (w.heap.size + 1) t wr) (h6 : Tb w.heap.size { kind := 0 } wr) (h7 : Below w.heap.size w wr)
    (n1 : t.name.length ≤ 3 * p) (n2 : t.pub.length ≤ 3 * p) (n3 : t.sys.length ≤ 3 * p) : DtR s w R (.int .i64 j) (.int .u8 z) (.int .i64 k) wr :=
  ⟨p, st, q, t, r', by rw [hj], by rw [hz], by rw [hk], h1, h2, h3, h4, h5, h6, h7, n1, n2, n3⟩

set_option maxRecDepth 100000 in
set_option maxHeartbeats 200000000 in
/-- The call, out of its rounds. -/
noncomputable def doctypeCap (s : ByteArray) (n : Nat) (r : List UInt8) (hs : s.size ≤ 16777216) (hr : Ps s n r) (w : World) :
    PSigma fun P : Nat → Prop => (∀ st, st ∈ [1, 2, 3, 4, 5, 7, 8, 9, 10, 11] → P st) → Calls Tryd.prog 21 #[.string s, .int .i64 n] w (TR w (dR 0 1 0 { kind := 5 } r).1 ((s.size - (dR 0 1 0 { kind := 5 } r).2.1.length : Nat) : Int) (dR 0 1 0 { kind := 5 } r).2.2) := by
  refine ⟨?P, fun HCAP => ?main⟩
  case main =>
    have hn := hr.le
    have HR := Lib.hid hr
    obtain ⟨R, hR⟩ : ∃ R, dR 0 1 0 { kind := 5 } r = R := ⟨_, rfl⟩
    rw [hR]
    have HRR := Lib.hid hR
    clear hR
    go_enter Tryd.func21, Tryd.ntmps21
    have HT0 := Lib.hid (Tb.new w)
    have hb0 : Below w.heap.size w (w.alloc (.cells #[.int .u8 0, .string ⟨#[]⟩, .slice none 0 0, .bool false, .string ⟨#[]⟩, .string ⟨#[]⟩, .string ⟨#[]⟩, .bool false, .bool false, .bool false] 26)) := (Below.refl _ w).alloc (Nat.le_refl _) _
    have HB0 := Lib.hid hb0
    clear hb0
    go_wp2
    generalize hW1 : World.alloc _ _ = W1
    have hs0 : (w.alloc (.cells #[.int .u8 0, .string ⟨#[]⟩, .slice none 0 0, .bool false, .string ⟨#[]⟩, .string ⟨#[]⟩, .string ⟨#[]⟩, .bool false, .bool false, .bool false] 26)).heap.size = w.heap.size + 1 := by simp
    have hT1 : Tb (w.heap.size + 1) { kind := 5 } W1 := by
      have := heap_alloc_new (w.alloc (.cells #[.int .u8 0, .string ⟨#[]⟩, .slice none 0 0, .bool false, .string ⟨#[]⟩, .string ⟨#[]⟩, .string ⟨#[]⟩, .bool false, .bool false, .bool false] 26)) (.cells (tkCells { kind := 5 }) 26)
      rw [hs0] at this
      rw [← hW1]; exact this
    have hT0 : Tb w.heap.size { kind := 0 } W1 := by rw [← hW1]; exact HT0.out.alloc _
    have hB1 : Below w.heap.size w W1 := by rw [← hW1]; exact HB0.out.alloc HB0.out.size _
    clear hW1 HT0 HB0 hs0
    go_loopw [8, 9, 10] (fun v8 v9 v10 wr => DtR s w R v8 v9 v10 wr) (fun _ _ v10 _ => s.size - (intOf v10).toNat)
    case atStart => exact ⟨n, 1, 0, { kind := 5 }, r, rfl, rfl, rfl, hn, by decide, HR.out, HRR.out, hT1, hT0, hB1, by simp, by simp, by simp⟩
    case round =>
      obtain ⟨p, st, q, t, r', rfl, rfl, rfl, hp, hst, hps, HQ, hTt, hTr, hB, hn1, hn2, hn3⟩ := hrel
      have HB := Lib.hid hB
      have HTt := Lib.hid hTt
      have HTr := Lib.hid hTr
      have hlt2 := hTt.lt
      have hlt3 := hTr.lt
      have hqn := q.toNat_lt
      cases r' with
      | nil =>
        obtain rfl := hps.nil
        have hpp : ¬ ((s.size : Int) < s.size) := by omega
        obtain ⟨c0, c1, c2, c3, c4, c5, c6, c7, c8, c9, fz⟩ := hTt.cs
        obtain ⟨d0, d1, d2, d3, d4, d5, d6, d7, d8, d9, dz⟩ := hTr.cs
        by_cases h10 : st = 10
        · have f10 : ((st : Int) == 10) = true := by rw [h10]; rfl
          have g10 : ((st : Int) != 10) = false := by rw [h10]; rfl
          have HF : Hid (R = (t, [], false)) := by unfold Hid; rw [← HQ.out, dR_nil, if_neg (by simp [h10])]
          clear hT1 hT0 hB1 hTt hTr hB hps h10 hst
          go_wp2
          generalize hW3 : World.setCell _ _ _ = W3
          have hR3 : Tb w.heap.size t W3 := by rw [← hW3]; exact set10 HTr.out _ _ _ _ _ _ _ _ _ _
          have hB3 : Below w.heap.size w W3 := by rw [← hW3]; exact below_sets HB.out (Nat.le_refl _) _ _ _ _ _ _ _ _ _ _
          rw [HF.out]
          refine bodyPost_ret (results_tok rfl rfl hR3) rfl ⟨?_, hB3⟩
          refine tok_end ?_
          show (s.size : Int) = ((s.size - ([] : List UInt8).length : Nat) : Int)
          simp
        · have f10 : ((st : Int) == 10) = false := beq_eq_false_iff_ne.2 (by omega)
          have g10 : ((st : Int) != 10) = true := by rw [bne, f10]; rfl
          have HF : Hid (R = ({ t with q := true }, [], false)) := by unfold Hid; rw [← HQ.out, dR_nil, if_pos h10]
          have HT3 := Lib.hid (HTr.out.other (j := 9) (show w.heap.size ≠ w.heap.size + 1 by omega) (.bool true))
          have HB3 := Lib.hid (HB.out.setCell (p := ⟨w.heap.size + 1, 9, none⟩) (by simp) (.bool true))
          clear hT1 hT0 hB1 hTt hTr hB hps h10 hst
          go_wp2
          generalize hW3 : World.setCell _ _ _ = W3
          have hR3 : Tb w.heap.size { t with q := true } W3 := by rw [← hW3]; exact set10 HT3.out _ _ _ _ _ _ _ _ _ _
          have hB3 : Below w.heap.size w W3 := by rw [← hW3]; exact below_sets HB3.out (Nat.le_refl _) _ _ _ _ _ _ _ _ _ _
          rw [HF.out]
          refine bodyPost_ret (results_tok rfl rfl hR3) rfl ⟨?_, hB3⟩
          refine tok_end ?_
          show (s.size : Int) = ((s.size - ([] : List UInt8).length : Nat) : Int)
          simp
      | cons c r2 =>
        obtain ⟨hpl, hx, hps2⟩ := hps.cons
        have hplen := hps2.len
        have hplt : (p : Int) < s.size := by omega
        have HP := Lib.hid hps2
        have HP0 := Lib.hid hps
        have hcc : (s[p].toNat : Int) < 256 := by have := s[p].toNat_lt; omega
        have FQ : Hid ((((s[p].toNat : Nat) : Int) == ((q.toNat : Nat) : Int)) = (c == q)) := by unfold Hid; rw [hx]; exact byte_eq c q
        have SP : ∀ w, Calls Tryd.prog 43 #[.int .u8 (s[p].toNat : Nat)] w fun e w' => e = .returned (.bool (bsp c)) ∧ w = w' := fun w => by have := spaceB_calls s[p] w; rwa [hx] at this ⊢
        have hwc := whB_le c
        have HXN := Lib.hid (congrArg UInt8.toNat hx)
        clear hT1 hT0 hB1 hTt hTr hB hps hps2
        rename_i K hK
        have HC := HCAP st hst
        clear HCAP HR HRR hn hst W1
        revert R K hK wr u5 u6 u11 u12 u13 u14 u15 u18 u19 u20 u21 u22 u23 u24 u25 u26 u27 u28 u29 u30 u31 u32 u33 u34 u35 u36 u37 u38 u39 u40 u41 u42 u43 u44 u45 u46 u47 u48 u49 u50 u51 u52 u53 u54 u55 u56 u57 u58 u59 u60 u61 u62 u63 u64 u65 u66 u67 u68 u69 u70 u71 u72 u73 u74 u75 u76 u77 u78 u79 u80 u81 u82 u83 u84 u85 u86 u87 u88 u89 u90 u91 u92 u93 u94 u95 u96 u97 u98 u99 u100 u101 u102 u103 u104 u105 u106 u107 u108 u109 u110 u111 u112 u113 u114 u115 u116 u117 u118 u119 u120 u121 u122 u123 u124 u125 u126 u127 u128 u129 u130 u131 u132 u133 u134 u135 u136 u137 u138 u139 u140 u141 u142 u143 u144 u145 u146 u147 u148 u149 u150 u151 u152 u153 u154 u155 u156 u157 u158 u159 u160 u161 u162 u163 u164 u165 u166 u167 u168 u169 u170 u171 u172 u173 u174 u175 u176 u177 u178 u179 u180 u181 u182 u183 u184 u185 u186 u187 u188 p q t hp hn1 hn2 hn3 HB HTt HTr hlt2 hlt3 hqn c r2 HQ hpl hx hplen hplt HP HP0 hcc FQ SP hwc HXN
        exact HC
end Go.Proofs.YtileclmmobkcaaaDoor
