/- tmpl.write at a part: if, range. The condition: as XTw1's. -/
import Derived.Test.YtepcpgdfbaklfaaGreatDoorMcTbd
import Derived.Test.YtepcpgdfbaklfaaGreatDoorMcTw2
set_option linter.unusedSimpArgs false
set_option linter.unusedVariables false
namespace Go.Proofs.YtepcpgdfbaklfaaGreatDoor
open Go.RowKit Go.Shelf
attribute [local go_sem ↓] Go.wp_at_zero Go.wp_at_succ
set_option maxRecDepth 100000 in
set_option maxHeartbeats 40000000 in
theorem write_k3 (n : Nat) (IH : Hid (WrSaid n)) (t : Pt) (hn : t.cnt < n + 1) (B bo : Nat) (l : By) (c : Nat) (w : World) (HSM : Hid t.sm) (hcnt : t.cnt ≤ 16777216) (HLEN : Hid (l.length + (t.src false).length ≤ 16777216)) (h1 : t.len ≤ c) (h2 : c ≤ maxLen) (hbo : B ≤ bo ∧ bo < w.heap.size)
 (HBB : Hid (Bdf B bo l w)) (HB : Hid (B ≤ w.heap.size)) (b o : Nat) (hlc : t.len ≤ t.cnt) : (writeCap n IH t hn B bo l c w HSM hcnt HLEN h1 h2 hbo HBB HB b o hlc).1 3 := by
 unfold writeCap
 intro hc64 W1 HW1 HQ wr u5 u6 u7 u12 u13 u14 u15 u16 u17 u18 u19 u20 u21 u22 u23 u24 u25 u26 u27 u28 u29 u30 u31 u32 u33 u34 u35 u36 u37 u38 u39 u40 u41 u42 u43 u44 u45 u46 u47 u48 u49 u50 u51 u52 u53 u54 u55 u56 u57 u58 u59 u60 u61 u62 u63 u64 u65 u66 u67 u68 u69 u70 u71 u72 u73 u74 u75 u76 u77 u78 u79 u80 u81 u82 u83 u84 u85 u86 u87 k l' af HBD HWR h kd el r hcn HE hbB HWW g0 g1 g2 g3 g5 ak ck g6 k1 k2 ae ce g7 e1 e2 hkt hsmr s0 hbw hqw hBw HSR HLT KC EC AC HQC HKI hki HAC HAZ HAN an cn g4 PC HPB HAL HBA n1 n2 hu
 have hkn : h.kind = 3 ∨ h.kind = 4 := (lkCl_k hu).2.2.1 rfl
 rcases hkn with hkn | hkn
 · skip
   have f1 : ((h.kind : Int) == 1) = false := beq_eq_false_iff_ne.2 (by omega)
   have f2 : ((h.kind : Int) == 2) = false := beq_eq_false_iff_ne.2 (by omega)
   have f3 : ((h.kind : Int) == 3) = true := by rw [hkn]; rfl
   have f4 : ((h.kind : Int) == 4) = false := beq_eq_false_iff_ne.2 (by omega)
   have f5 : ((h.kind : Int) == 5) = false := beq_eq_false_iff_ne.2 (by omega)
   have HPI : Hid (pieceB h kd el af = bra ++ (kIf ++ 32 :: wayS h.root (bls h.names)) ++ ket ++ Pt.src false kd ++ (if el.isNil then [] else elseS ++ Pt.src false el) ++ endS) := by
    unfold Hid pieceB; rw [if_neg (by omega), if_neg (by omega), if_neg (by omega), if_pos (by omega)]
    congr 7
    rw [if_neg (by omega)]
   have HKN := Lib.hid hkn
   have hway : (wayS h.root (bls h.names)).length ≤ 16777216 := by have := HLT.out; rw [HPI.out] at this; simp at this; omega
   clear hkn hu
   unfold pCells at HPB HAL HBA
   have P1 := Lib.hid (PC.out _ HAL.out hway)
   go_wp2_with fail
   generalize hW0 : World.alloc wr _ = W0 at *
   clear hW0
   have hBz : B ≤ W0.heap.size := Nat.le_trans hBw HAL.out.size
   have HPW := HPB
   refine P1.out.mono ?_
   rintro e w1 ⟨rfl, hb1⟩
   have HW1' := Lib.hid (Wr.below (b := bo) hb1 hBz)
   have HB1 := Lib.hid (HBA.out.below hb1)
   clear hb1 P1
   obtain ⟨p0, p2, p3, p4, p5, p6, p7⟩ := HPW.out _ HW1'.out
   have hqb := HQC.out _ (HAL.out.trans HW1'.out)
   have A1 : Hid (Calls Tryz.prog 110 #[.slice (some ⟨(w1).heap.size, 0, none⟩) 2 2, .pointer (some ⟨w.heap.size, 0, none⟩)] ((w1).alloc (.cells #[.string ⟨#[105, 102]⟩, .string (mkB (wayS h.root (bls h.names)))] 9)) fun e w' => e = .returned (.tuple #[]) ∧ Bdf B bo (l' ++ (bra ++ (kIf ++ 32 :: wayS h.root (bls h.names)) ++ ket)) w' ∧ Wr B bo (w1) w') := ac_new AC.out (w1) (l') (HAL.out.trans (HW1'.out)) HB1.out (Nat.le_trans hBw ((HAL.out.trans (HW1'.out))).size) [⟨#[105, 102]⟩, (mkB (wayS h.root (bls h.names)))] (by simp) (by have := HLT.out; rw [HPI.out] at this; simp [joinW, bls, bl, mkB, kCall, kIf, kRange, kElse, kEnd, elseS, endS, bra, ket] at this ⊢; omega)
   go_wp2_with fail
   refine A1.out.mono ?_
   rintro e w2 ⟨rfl, hb2, hw2⟩
   have HB2 := Lib.hid hb2
   have HW2 := Lib.hid ((HW1'.out).trans hw2)
   clear hb2 hw2 p0 p2 p3 p4 p5 p6 p7
   obtain ⟨p0, p2, p3, p4, p5, p6, p7⟩ := HPW.out _ HW2.out
   have hqb := HQC.out _ (HAL.out.trans HW2.out)
   go_wp2_with fail
   refine (KC.out _ (l' ++ (bra ++ (kIf ++ 32 :: wayS h.root (bls h.names)) ++ ket)) (HAL.out.trans (HW2.out)) HB2.out (by have := HLT.out; rw [HPI.out] at this; simp [joinW, bls, bl, mkB, kCall, kIf, kRange, kElse, kEnd, elseS, endS, bra, ket] at this ⊢; omega)).mono ?_
   rintro e w3 ⟨rfl, hb3, hw3⟩
   have HB3 := Lib.hid hb3
   have HW3 := Lib.hid ((HW2.out).trans hw3)
   clear hb3 hw3 p0 p2 p3 p4 p5 p6 p7
   obtain ⟨p0, p2, p3, p4, p5, p6, p7⟩ := HPW.out _ HW3.out
   have hqb := HQC.out _ (HAL.out.trans HW3.out)
   by_cases hel : el.isNil = true
   · have HIS : Hid ((if el.isNil then [] else elseS ++ el.src false) = []) := if_pos hel
     have hl0 : ¬ (0 : Int) < (el.len : Int) := by rw [nil_len] at hel; have := of_decide_eq_true hel; omega
     clear hel
     rw [HIS.out] at HPI
     have A3 : Hid (Calls Tryz.prog 110 #[.slice (some ⟨(w3).heap.size, 0, none⟩) 1 1, .pointer (some ⟨w.heap.size, 0, none⟩)] ((w3).alloc (.cells #[.string ⟨#[101, 110, 100]⟩] 9)) fun e w' => e = .returned (.tuple #[]) ∧ Bdf B bo ((l' ++ (bra ++ (kIf ++ 32 :: wayS h.root (bls h.names)) ++ ket)) ++ kd.src false ++ (endS)) w' ∧ Wr B bo (w3) w') := ac_new AC.out (w3) ((l' ++ (bra ++ (kIf ++ 32 :: wayS h.root (bls h.names)) ++ ket)) ++ kd.src false) (HAL.out.trans (HW3.out)) HB3.out (Nat.le_trans hBw ((HAL.out.trans (HW3.out))).size) [⟨#[101, 110, 100]⟩] (by simp) (by have := HLT.out; rw [HPI.out] at this; simp [joinW, bls, bl, mkB, kCall, kIf, kRange, kElse, kEnd, elseS, endS, bra, ket] at this ⊢; omega)
     go_wp2_with fail
     refine A3.out.mono ?_
     rintro e w4 ⟨rfl, hb4, hw4⟩
     have HB4 := Lib.hid hb4
     have HW4 := Lib.hid ((HW3.out).trans hw4)
     clear hb4 hw4 p0 p2 p3 p4 p5 p6 p7
     obtain ⟨p0, p2, p3, p4, p5, p6, p7⟩ := HPW.out _ HW4.out
     have hqb := HQC.out _ (HAL.out.trans HW4.out)
     go_wp2_with fail
     have HE2 : Hid ((((l' ++ (bra ++ (kIf ++ 32 :: wayS h.root (bls h.names)) ++ ket)) ++ kd.src false) ++ (endS)) ++ r.src (decide (h.kind = 1)) = l ++ t.src false) := by
      have := HE.out
      rw [src_cons] at this
      unfold Hid; rw [← this, HPI.out]; simp
     have HA2 := HAN.out
     go_roundw
     case rel => exact ⟨k + 1, _, r, _, by go_num, (by have := HKI.out; omega), HB4.out, HWR.out.trans (HAL.out.trans HW4.out), (by first | exact HSR | exact fun h => ⟨trivial, (HSR.out h).2⟩), hsmr, by omega, HE2, HAN⟩
     case measure => simp [intOf]; omega
   · have HIS : Hid ((if el.isNil then [] else elseS ++ el.src false) = elseS ++ el.src false) := if_neg hel
     have hl0 : (0 : Int) < (el.len : Int) := by rw [nil_len] at hel; have : ¬ el.len = 0 := fun e => hel (decide_eq_true e); omega
     clear hel
     rw [HIS.out] at HPI
     have A3 : Hid (Calls Tryz.prog 110 #[.slice (some ⟨(w3).heap.size, 0, none⟩) 1 1, .pointer (some ⟨w.heap.size, 0, none⟩)] ((w3).alloc (.cells #[.string ⟨#[101, 108, 115, 101]⟩] 9)) fun e w' => e = .returned (.tuple #[]) ∧ Bdf B bo ((l' ++ (bra ++ (kIf ++ 32 :: wayS h.root (bls h.names)) ++ ket)) ++ kd.src false ++ (elseS)) w' ∧ Wr B bo (w3) w') := ac_new AC.out (w3) ((l' ++ (bra ++ (kIf ++ 32 :: wayS h.root (bls h.names)) ++ ket)) ++ kd.src false) (HAL.out.trans (HW3.out)) HB3.out (Nat.le_trans hBw ((HAL.out.trans (HW3.out))).size) [⟨#[101, 108, 115, 101]⟩] (by simp) (by have := HLT.out; rw [HPI.out] at this; simp [joinW, bls, bl, mkB, kCall, kIf, kRange, kElse, kEnd, elseS, endS, bra, ket] at this ⊢; omega)
     go_wp2_with fail
     refine A3.out.mono ?_
     rintro e w4 ⟨rfl, hb4, hw4⟩
     have HB4 := Lib.hid hb4
     have HW4 := Lib.hid ((HW3.out).trans hw4)
     clear hb4 hw4 p0 p2 p3 p4 p5 p6 p7
     obtain ⟨p0, p2, p3, p4, p5, p6, p7⟩ := HPW.out _ HW4.out
     have hqb := HQC.out _ (HAL.out.trans HW4.out)
     go_wp2_with fail
     refine (EC.out _ (((l' ++ (bra ++ (kIf ++ 32 :: wayS h.root (bls h.names)) ++ ket)) ++ kd.src false) ++ (elseS)) (HAL.out.trans (HW4.out)) HB4.out (by have := HLT.out; rw [HPI.out] at this; simp [joinW, bls, bl, mkB, kCall, kIf, kRange, kElse, kEnd, elseS, endS, bra, ket] at this ⊢; omega)).mono ?_
     rintro e w5 ⟨rfl, hb5, hw5⟩
     have HB5 := Lib.hid hb5
     have HW5 := Lib.hid ((HW4.out).trans hw5)
     clear hb5 hw5 p0 p2 p3 p4 p5 p6 p7
     obtain ⟨p0, p2, p3, p4, p5, p6, p7⟩ := HPW.out _ HW5.out
     have hqb := HQC.out _ (HAL.out.trans HW5.out)
     have A4 : Hid (Calls Tryz.prog 110 #[.slice (some ⟨(w5).heap.size, 0, none⟩) 1 1, .pointer (some ⟨w.heap.size, 0, none⟩)] ((w5).alloc (.cells #[.string ⟨#[101, 110, 100]⟩] 9)) fun e w' => e = .returned (.tuple #[]) ∧ Bdf B bo ((((l' ++ (bra ++ (kIf ++ 32 :: wayS h.root (bls h.names)) ++ ket)) ++ kd.src false) ++ (elseS)) ++ el.src false ++ (endS)) w' ∧ Wr B bo (w5) w') := ac_new AC.out (w5) ((((l' ++ (bra ++ (kIf ++ 32 :: wayS h.root (bls h.names)) ++ ket)) ++ kd.src false) ++ (elseS)) ++ el.src false) (HAL.out.trans (HW5.out)) HB5.out (Nat.le_trans hBw ((HAL.out.trans (HW5.out))).size) [⟨#[101, 110, 100]⟩] (by simp) (by have := HLT.out; rw [HPI.out] at this; simp [joinW, bls, bl, mkB, kCall, kIf, kRange, kElse, kEnd, elseS, endS, bra, ket] at this ⊢; omega)
     go_wp2_with fail
     refine A4.out.mono ?_
     rintro e w6 ⟨rfl, hb6, hw6⟩
     have HB6 := Lib.hid hb6
     have HW6 := Lib.hid ((HW5.out).trans hw6)
     clear hb6 hw6 p0 p2 p3 p4 p5 p6 p7
     obtain ⟨p0, p2, p3, p4, p5, p6, p7⟩ := HPW.out _ HW6.out
     have hqb := HQC.out _ (HAL.out.trans HW6.out)
     go_wp2_with fail
     have HE2 : Hid ((((((l' ++ (bra ++ (kIf ++ 32 :: wayS h.root (bls h.names)) ++ ket)) ++ kd.src false) ++ (elseS)) ++ el.src false) ++ (endS)) ++ r.src (decide (h.kind = 1)) = l ++ t.src false) := by
      have := HE.out
      rw [src_cons] at this
      unfold Hid; rw [← this, HPI.out]; simp
     have HA2 := HAN.out
     go_roundw
     case rel => exact ⟨k + 1, _, r, _, by go_num, (by have := HKI.out; omega), HB6.out, HWR.out.trans (HAL.out.trans HW6.out), (by first | exact HSR | exact fun h => ⟨trivial, (HSR.out h).2⟩), hsmr, by omega, HE2, HAN⟩
     case measure => simp [intOf]; omega
 · skip
   have f1 : ((h.kind : Int) == 1) = false := beq_eq_false_iff_ne.2 (by omega)
   have f2 : ((h.kind : Int) == 2) = false := beq_eq_false_iff_ne.2 (by omega)
   have f3 : ((h.kind : Int) == 3) = false := beq_eq_false_iff_ne.2 (by omega)
   have f4 : ((h.kind : Int) == 4) = true := by rw [hkn]; rfl
   have f5 : ((h.kind : Int) == 5) = false := beq_eq_false_iff_ne.2 (by omega)
   have HPI : Hid (pieceB h kd el af = bra ++ (kRange ++ 32 :: wayS h.root (bls h.names)) ++ ket ++ Pt.src false kd ++ (if el.isNil then [] else elseS ++ Pt.src false el) ++ endS) := by
    unfold Hid pieceB; rw [if_neg (by omega), if_neg (by omega), if_neg (by omega), if_pos (by omega)]
    congr 7
    rw [if_pos hkn]
   have HKN := Lib.hid hkn
   have hway : (wayS h.root (bls h.names)).length ≤ 16777216 := by have := HLT.out; rw [HPI.out] at this; simp at this; omega
   clear hkn hu
   unfold pCells at HPB HAL HBA
   have P1 := Lib.hid (PC.out _ HAL.out hway)
   go_wp2_with fail
   generalize hW0 : World.alloc wr _ = W0 at *
   clear hW0
   have hBz : B ≤ W0.heap.size := Nat.le_trans hBw HAL.out.size
   have HPW := HPB
   refine P1.out.mono ?_
   rintro e w1 ⟨rfl, hb1⟩
   have HW1' := Lib.hid (Wr.below (b := bo) hb1 hBz)
   have HB1 := Lib.hid (HBA.out.below hb1)
   clear hb1 P1
   obtain ⟨p0, p2, p3, p4, p5, p6, p7⟩ := HPW.out _ HW1'.out
   have hqb := HQC.out _ (HAL.out.trans HW1'.out)
   have A1 : Hid (Calls Tryz.prog 110 #[.slice (some ⟨(w1).heap.size, 0, none⟩) 2 2, .pointer (some ⟨w.heap.size, 0, none⟩)] ((w1).alloc (.cells #[.string ⟨#[114, 97, 110, 103, 101]⟩, .string (mkB (wayS h.root (bls h.names)))] 9)) fun e w' => e = .returned (.tuple #[]) ∧ Bdf B bo (l' ++ (bra ++ (kRange ++ 32 :: wayS h.root (bls h.names)) ++ ket)) w' ∧ Wr B bo (w1) w') := ac_new AC.out (w1) (l') (HAL.out.trans (HW1'.out)) HB1.out (Nat.le_trans hBw ((HAL.out.trans (HW1'.out))).size) [⟨#[114, 97, 110, 103, 101]⟩, (mkB (wayS h.root (bls h.names)))] (by simp) (by have := HLT.out; rw [HPI.out] at this; simp [joinW, bls, bl, mkB, kCall, kIf, kRange, kElse, kEnd, elseS, endS, bra, ket] at this ⊢; omega)
   go_wp2_with fail
   refine A1.out.mono ?_
   rintro e w2 ⟨rfl, hb2, hw2⟩
   have HB2 := Lib.hid hb2
   have HW2 := Lib.hid ((HW1'.out).trans hw2)
   clear hb2 hw2 p0 p2 p3 p4 p5 p6 p7
   obtain ⟨p0, p2, p3, p4, p5, p6, p7⟩ := HPW.out _ HW2.out
   have hqb := HQC.out _ (HAL.out.trans HW2.out)
   go_wp2_with fail
   refine (KC.out _ (l' ++ (bra ++ (kRange ++ 32 :: wayS h.root (bls h.names)) ++ ket)) (HAL.out.trans (HW2.out)) HB2.out (by have := HLT.out; rw [HPI.out] at this; simp [joinW, bls, bl, mkB, kCall, kIf, kRange, kElse, kEnd, elseS, endS, bra, ket] at this ⊢; omega)).mono ?_
   rintro e w3 ⟨rfl, hb3, hw3⟩
   have HB3 := Lib.hid hb3
   have HW3 := Lib.hid ((HW2.out).trans hw3)
   clear hb3 hw3 p0 p2 p3 p4 p5 p6 p7
   obtain ⟨p0, p2, p3, p4, p5, p6, p7⟩ := HPW.out _ HW3.out
   have hqb := HQC.out _ (HAL.out.trans HW3.out)
   by_cases hel : el.isNil = true
   · have HIS : Hid ((if el.isNil then [] else elseS ++ el.src false) = []) := if_pos hel
     have hl0 : ¬ (0 : Int) < (el.len : Int) := by rw [nil_len] at hel; have := of_decide_eq_true hel; omega
     clear hel
     rw [HIS.out] at HPI
     have A3 : Hid (Calls Tryz.prog 110 #[.slice (some ⟨(w3).heap.size, 0, none⟩) 1 1, .pointer (some ⟨w.heap.size, 0, none⟩)] ((w3).alloc (.cells #[.string ⟨#[101, 110, 100]⟩] 9)) fun e w' => e = .returned (.tuple #[]) ∧ Bdf B bo ((l' ++ (bra ++ (kRange ++ 32 :: wayS h.root (bls h.names)) ++ ket)) ++ kd.src false ++ (endS)) w' ∧ Wr B bo (w3) w') := ac_new AC.out (w3) ((l' ++ (bra ++ (kRange ++ 32 :: wayS h.root (bls h.names)) ++ ket)) ++ kd.src false) (HAL.out.trans (HW3.out)) HB3.out (Nat.le_trans hBw ((HAL.out.trans (HW3.out))).size) [⟨#[101, 110, 100]⟩] (by simp) (by have := HLT.out; rw [HPI.out] at this; simp [joinW, bls, bl, mkB, kCall, kIf, kRange, kElse, kEnd, elseS, endS, bra, ket] at this ⊢; omega)
     go_wp2_with fail
     refine A3.out.mono ?_
     rintro e w4 ⟨rfl, hb4, hw4⟩
     have HB4 := Lib.hid hb4
     have HW4 := Lib.hid ((HW3.out).trans hw4)
     clear hb4 hw4 p0 p2 p3 p4 p5 p6 p7
     obtain ⟨p0, p2, p3, p4, p5, p6, p7⟩ := HPW.out _ HW4.out
     have hqb := HQC.out _ (HAL.out.trans HW4.out)
     go_wp2_with fail
     have HE2 : Hid ((((l' ++ (bra ++ (kRange ++ 32 :: wayS h.root (bls h.names)) ++ ket)) ++ kd.src false) ++ (endS)) ++ r.src (decide (h.kind = 1)) = l ++ t.src false) := by
      have := HE.out
      rw [src_cons] at this
      unfold Hid; rw [← this, HPI.out]; simp
     have HA2 := HAN.out
     go_roundw
     case rel => exact ⟨k + 1, _, r, _, by go_num, (by have := HKI.out; omega), HB4.out, HWR.out.trans (HAL.out.trans HW4.out), (by first | exact HSR | exact fun h => ⟨trivial, (HSR.out h).2⟩), hsmr, by omega, HE2, HAN⟩
     case measure => simp [intOf]; omega
   · have HIS : Hid ((if el.isNil then [] else elseS ++ el.src false) = elseS ++ el.src false) := if_neg hel
     have hl0 : (0 : Int) < (el.len : Int) := by rw [nil_len] at hel; have : ¬ el.len = 0 := fun e => hel (decide_eq_true e); omega
     clear hel
     rw [HIS.out] at HPI
     have A3 : Hid (Calls Tryz.prog 110 #[.slice (some ⟨(w3).heap.size, 0, none⟩) 1 1, .pointer (some ⟨w.heap.size, 0, none⟩)] ((w3).alloc (.cells #[.string ⟨#[101, 108, 115, 101]⟩] 9)) fun e w' => e = .returned (.tuple #[]) ∧ Bdf B bo ((l' ++ (bra ++ (kRange ++ 32 :: wayS h.root (bls h.names)) ++ ket)) ++ kd.src false ++ (elseS)) w' ∧ Wr B bo (w3) w') := ac_new AC.out (w3) ((l' ++ (bra ++ (kRange ++ 32 :: wayS h.root (bls h.names)) ++ ket)) ++ kd.src false) (HAL.out.trans (HW3.out)) HB3.out (Nat.le_trans hBw ((HAL.out.trans (HW3.out))).size) [⟨#[101, 108, 115, 101]⟩] (by simp) (by have := HLT.out; rw [HPI.out] at this; simp [joinW, bls, bl, mkB, kCall, kIf, kRange, kElse, kEnd, elseS, endS, bra, ket] at this ⊢; omega)
     go_wp2_with fail
     refine A3.out.mono ?_
     rintro e w4 ⟨rfl, hb4, hw4⟩
     have HB4 := Lib.hid hb4
     have HW4 := Lib.hid ((HW3.out).trans hw4)
     clear hb4 hw4 p0 p2 p3 p4 p5 p6 p7
     obtain ⟨p0, p2, p3, p4, p5, p6, p7⟩ := HPW.out _ HW4.out
     have hqb := HQC.out _ (HAL.out.trans HW4.out)
     go_wp2_with fail
     refine (EC.out _ (((l' ++ (bra ++ (kRange ++ 32 :: wayS h.root (bls h.names)) ++ ket)) ++ kd.src false) ++ (elseS)) (HAL.out.trans (HW4.out)) HB4.out (by have := HLT.out; rw [HPI.out] at this; simp [joinW, bls, bl, mkB, kCall, kIf, kRange, kElse, kEnd, elseS, endS, bra, ket] at this ⊢; omega)).mono ?_
     rintro e w5 ⟨rfl, hb5, hw5⟩
     have HB5 := Lib.hid hb5
     have HW5 := Lib.hid ((HW4.out).trans hw5)
     clear hb5 hw5 p0 p2 p3 p4 p5 p6 p7
     obtain ⟨p0, p2, p3, p4, p5, p6, p7⟩ := HPW.out _ HW5.out
     have hqb := HQC.out _ (HAL.out.trans HW5.out)
     have A4 : Hid (Calls Tryz.prog 110 #[.slice (some ⟨(w5).heap.size, 0, none⟩) 1 1, .pointer (some ⟨w.heap.size, 0, none⟩)] ((w5).alloc (.cells #[.string ⟨#[101, 110, 100]⟩] 9)) fun e w' => e = .returned (.tuple #[]) ∧ Bdf B bo ((((l' ++ (bra ++ (kRange ++ 32 :: wayS h.root (bls h.names)) ++ ket)) ++ kd.src false) ++ (elseS)) ++ el.src false ++ (endS)) w' ∧ Wr B bo (w5) w') := ac_new AC.out (w5) ((((l' ++ (bra ++ (kRange ++ 32 :: wayS h.root (bls h.names)) ++ ket)) ++ kd.src false) ++ (elseS)) ++ el.src false) (HAL.out.trans (HW5.out)) HB5.out (Nat.le_trans hBw ((HAL.out.trans (HW5.out))).size) [⟨#[101, 110, 100]⟩] (by simp) (by have := HLT.out; rw [HPI.out] at this; simp [joinW, bls, bl, mkB, kCall, kIf, kRange, kElse, kEnd, elseS, endS, bra, ket] at this ⊢; omega)
     go_wp2_with fail
     refine A4.out.mono ?_
     rintro e w6 ⟨rfl, hb6, hw6⟩
     have HB6 := Lib.hid hb6
     have HW6 := Lib.hid ((HW5.out).trans hw6)
     clear hb6 hw6 p0 p2 p3 p4 p5 p6 p7
     obtain ⟨p0, p2, p3, p4, p5, p6, p7⟩ := HPW.out _ HW6.out
     have hqb := HQC.out _ (HAL.out.trans HW6.out)
     go_wp2_with fail
     have HE2 : Hid ((((((l' ++ (bra ++ (kRange ++ 32 :: wayS h.root (bls h.names)) ++ ket)) ++ kd.src false) ++ (elseS)) ++ el.src false) ++ (endS)) ++ r.src (decide (h.kind = 1)) = l ++ t.src false) := by
      have := HE.out
      rw [src_cons] at this
      unfold Hid; rw [← this, HPI.out]; simp
     have HA2 := HAN.out
     go_roundw
     case rel => exact ⟨k + 1, _, r, _, by go_num, (by have := HKI.out; omega), HB6.out, HWR.out.trans (HAL.out.trans HW6.out), (by first | exact HSR | exact fun h => ⟨trivial, (HSR.out h).2⟩), hsmr, by omega, HE2, HAN⟩
     case measure => simp [intOf]; omega
theorem write_step (n : Nat) (ih : WrSaid n) : WrSaid (n + 1) := by
 intro t hn B bo l v w hsm hcnt hlen hp hb hB
 obtain ⟨a, c, rfl, h1, h2, h3⟩ := hp
 obtain ⟨b, o, hrow⟩ : ∃ b o, (t ≠ .nil → a = some ⟨b, o, none⟩ ∧ b < B ∧ Row (· < B) w t b o) := by
  by_cases hn : t = .nil
  · exact ⟨0, 0, fun h => absurd hn h⟩
  · obtain ⟨b, o, h⟩ := h3 hn
    exact ⟨b, o, fun _ => h⟩
 refine (writeCap n (Lib.hid ih) t hn B bo l c w (Lib.hid hsm) hcnt (Lib.hid hlen) h1 h2 hb.lt (Lib.hid hb) (Lib.hid hB) b o (len_le_cnt t)).2 a (Lib.hid hrow) (fun u hu => ?_)
 simp only [List.mem_cons, List.mem_nil_iff, or_false] at hu
 rcases hu with rfl | rfl | rfl | rfl | rfl
 · exact write_k0 n (Lib.hid ih) t hn B bo l c w (Lib.hid hsm) hcnt (Lib.hid hlen) h1 h2 hb.lt (Lib.hid hb) (Lib.hid hB) b o (len_le_cnt t)
 · exact write_k1 n (Lib.hid ih) t hn B bo l c w (Lib.hid hsm) hcnt (Lib.hid hlen) h1 h2 hb.lt (Lib.hid hb) (Lib.hid hB) b o (len_le_cnt t)
 · exact write_k2 n (Lib.hid ih) t hn B bo l c w (Lib.hid hsm) hcnt (Lib.hid hlen) h1 h2 hb.lt (Lib.hid hb) (Lib.hid hB) b o (len_le_cnt t)
 · exact write_k3 n (Lib.hid ih) t hn B bo l c w (Lib.hid hsm) hcnt (Lib.hid hlen) h1 h2 hb.lt (Lib.hid hb) (Lib.hid hB) b o (len_le_cnt t)
 · exact write_k5 n (Lib.hid ih) t hn B bo l c w (Lib.hid hsm) hcnt (Lib.hid hlen) h1 h2 hb.lt (Lib.hid hb) (Lib.hid hB) b o (len_le_cnt t)
theorem write_all (n : Nat) : WrSaid n := by
 induction n with
 | zero => intro t h; exact absurd h (Nat.not_lt_zero _)
 | succ n ih => exact write_step n ih
theorem write_calls (t : Pt) (B bo : Nat) (l : By) (v : Value) (w : World) (hsm : t.sm) (hcnt : t.cnt ≤ 16777216) (hlen : l.length + (t.src false).length ≤ 16777216) (hp : Parts (· < B) w v t) (hb : Bdf B bo l w) (hB : B ≤ w.heap.size) :
 Calls Tryz.prog 68 #[.pointer (some ⟨bo, 0, none⟩), v] w fun e w' => e = .returned (.tuple #[]) ∧ Bdf B bo (l ++ t.src false) w' ∧ Wr B bo w w' :=
 write_all (t.cnt + 1) t (Nat.lt_succ_self _) B bo l v w hsm hcnt hlen hp hb hB
end Go.Proofs.YtepcpgdfbaklfaaGreatDoor
