/- tmpl.write at a part: kinds of class 0. The condition: as XTw1's. -/
import Derived.Test.YtepcpgdfbaklfaaGreatDoorMcTbd
set_option linter.unusedSimpArgs false
set_option linter.unusedVariables false
namespace Go.Proofs.YtepcpgdfbaklfaaGreatDoor
open Go.RowKit Go.Shelf
attribute [local go_sem ↓] Go.wp_at_zero Go.wp_at_succ
set_option maxRecDepth 100000 in
set_option maxHeartbeats 40000000 in
theorem write_k0 (n : Nat) (IH : Hid (WrSaid n)) (t : Pt) (hn : t.cnt < n + 1) (B bo : Nat) (l : By) (c : Nat) (w : World) (HSM : Hid t.sm) (hcnt : t.cnt ≤ 16777216) (HLEN : Hid (l.length + (t.src false).length ≤ 16777216)) (h1 : t.len ≤ c) (h2 : c ≤ maxLen) (hbo : B ≤ bo ∧ bo < w.heap.size)
 (HBB : Hid (Bdf B bo l w)) (HB : Hid (B ≤ w.heap.size)) (b o : Nat) (hlc : t.len ≤ t.cnt) : (writeCap n IH t hn B bo l c w HSM hcnt HLEN h1 h2 hbo HBB HB b o hlc).1 0 := by
 unfold writeCap
 intro hc64 W1 HW1 HQ wr u5 u6 u7 u12 u13 u14 u15 u16 u17 u18 u19 u20 u21 u22 u23 u24 u25 u26 u27 u28 u29 u30 u31 u32 u33 u34 u35 u36 u37 u38 u39 u40 u41 u42 u43 u44 u45 u46 u47 u48 u49 u50 u51 u52 u53 u54 u55 u56 u57 u58 u59 u60 u61 u62 u63 u64 u65 u66 u67 u68 u69 u70 u71 u72 u73 u74 u75 u76 u77 u78 u79 u80 u81 u82 u83 u84 u85 u86 u87 k l' af HBD HWR h kd el r hcn HE hbB HWW g0 g1 g2 g3 g5 ak ck g6 k1 k2 ae ce g7 e1 e2 hkt hsmr s0 hbw hqw hBw HSR HLT KC EC AC HQC HKI hki HAC HAZ HAN an cn g4 PC HPB HAL HBA n1 n2 hu
 have hkn := (lkCl_k hu).2.2.2.2 rfl
 have f1 : ((h.kind : Int) == 1) = false := beq_eq_false_iff_ne.2 (by omega)
 have f2 : ((h.kind : Int) == 2) = false := beq_eq_false_iff_ne.2 (by omega)
 have f3 : ((h.kind : Int) == 3) = false := beq_eq_false_iff_ne.2 (by omega)
 have f4 : ((h.kind : Int) == 4) = false := beq_eq_false_iff_ne.2 (by omega)
 have f5 : ((h.kind : Int) == 5) = false := beq_eq_false_iff_ne.2 (by omega)
 have HPI : Hid (pieceB h kd el af = []) := by unfold Hid pieceB; rw [if_neg (by omega), if_neg (by omega), if_neg (by omega), if_neg (by omega)]
 go_wp2_with fail
 have HE2 : Hid (l' ++ r.src (decide (h.kind = 1)) = l ++ t.src false) := by
  have := HE.out
  rw [src_cons] at this
  unfold Hid; rw [← this, HPI.out]; simp
 have HA2 := HAN.out
 go_roundw
 case rel => exact ⟨k + 1, _, r, _, by go_num, (by have := HKI.out; omega), HBA.out, HWR.out.trans HAL.out, (by first | exact HSR | exact fun h => ⟨trivial, (HSR.out h).2⟩), hsmr, by omega, HE2, HAN⟩
 case measure => simp [intOf]; omega
set_option maxRecDepth 100000 in
set_option maxHeartbeats 40000000 in
theorem write_k1 (n : Nat) (IH : Hid (WrSaid n)) (t : Pt) (hn : t.cnt < n + 1) (B bo : Nat) (l : By) (c : Nat) (w : World) (HSM : Hid t.sm) (hcnt : t.cnt ≤ 16777216) (HLEN : Hid (l.length + (t.src false).length ≤ 16777216)) (h1 : t.len ≤ c) (h2 : c ≤ maxLen) (hbo : B ≤ bo ∧ bo < w.heap.size)
 (HBB : Hid (Bdf B bo l w)) (HB : Hid (B ≤ w.heap.size)) (b o : Nat) (hlc : t.len ≤ t.cnt) : (writeCap n IH t hn B bo l c w HSM hcnt HLEN h1 h2 hbo HBB HB b o hlc).1 1 := by
 unfold writeCap
 intro hc64 W1 HW1 HQ wr u5 u6 u7 u12 u13 u14 u15 u16 u17 u18 u19 u20 u21 u22 u23 u24 u25 u26 u27 u28 u29 u30 u31 u32 u33 u34 u35 u36 u37 u38 u39 u40 u41 u42 u43 u44 u45 u46 u47 u48 u49 u50 u51 u52 u53 u54 u55 u56 u57 u58 u59 u60 u61 u62 u63 u64 u65 u66 u67 u68 u69 u70 u71 u72 u73 u74 u75 u76 u77 u78 u79 u80 u81 u82 u83 u84 u85 u86 u87 k l' af HBD HWR h kd el r hcn HE hbB HWW g0 g1 g2 g3 g5 ak ck g6 k1 k2 ae ce g7 e1 e2 hkt hsmr s0 hbw hqw hBw HSR HLT KC EC AC HQC HKI hki HAC HAZ HAN an cn g4 PC HPB HAL HBA n1 n2 hu
 have hkn : h.kind = 1 := (lkCl_k hu).1 rfl
 have f1 : ((h.kind : Int) == 1) = true := by rw [hkn]; rfl
 have f2 : ((h.kind : Int) == 2) = false := beq_eq_false_iff_ne.2 (by omega)
 have f3 : ((h.kind : Int) == 3) = false := beq_eq_false_iff_ne.2 (by omega)
 have f4 : ((h.kind : Int) == 4) = false := beq_eq_false_iff_ne.2 (by omega)
 have f5 : ((h.kind : Int) == 5) = false := beq_eq_false_iff_ne.2 (by omega)
 have HPI : Hid (pieceB h kd el af = (if af then noteS else []) ++ bl h.text) := if_pos hkn
 have HKN := Lib.hid hkn
 clear hkn hu
 go_upto_region 7 with (fail)
 clear g0 g1 g2 g3 g4 g5 g6 g7
 unfold pCells at HPB HAL HBA
 have HWA := Lib.hid (HWW.out.trans HAL.out)
 generalize hW0 : World.alloc wr _ = W0 at *
 clear hW0
 obtain ⟨p0, p2, p3, p4, p5, p6, p7⟩ := HPB.out _ (Wr.refl _ _ _)
 have hBz : B ≤ W0.heap.size := Nat.le_trans hBw HAL.out.size
 rcases Nat.eq_zero_or_pos k with hz | hp
 · have haf := HAZ.out hz
   subst haf
   have hz2 : ¬ (0 : Int) < (k : Int) := by omega
   clear hz
   go_upto_region 9 with (fail)
   have hqb := HQC.out W0 HAL.out
   have TC := Lib.hid (writeString_calls B bo l' h.text W0 HBA.out (by have := HLT.out; rw [HPI.out] at this; simp [bl] at this ⊢; omega) (by have := (HAL.out).size; omega))
   go_wp2_with (go_at_call 67; refine TC.out.mono ?_; rintro e w2 ⟨rfl, hb2, hw2⟩; have HB2 := Lib.hid hb2; have HW2 := Lib.hid ((HAL.out).trans hw2); clear hb2 hw2)
   have HE2 : Hid ((l' ++ bl h.text) ++ r.src (decide (h.kind = 1)) = l ++ t.src false) := by
    have := HE.out
    rw [src_cons] at this
    unfold Hid; rw [← this, HPI.out]; simp
   have HA2 := HAN.out
   go_roundw
   case rel => exact ⟨k + 1, _, r, _, by go_num, (by have := HKI.out; omega), HB2.out, HWR.out.trans HW2.out, (by first | exact HSR | exact fun h => ⟨trivial, (HSR.out h).2⟩), hsmr, by omega, HE2, HAN⟩
   case measure => simp [intOf]; omega
 · obtain ⟨j, hj⟩ : ∃ j, k = j + 1 := ⟨k - 1, by omega⟩
   obtain ⟨q, hq, haf⟩ := HAC.out _ HWA.out j hj
   have hj2 : (k : Int) - 1 = (j : Int) := by omega
   have hp2 : (0 : Int) < (k : Int) := by omega
   have hj3 : (j : Int) < (t.len : Int) := by omega
   clear hj hp
   cases af with
   | false =>
     have hq1 : ((q : Int) == 1) = false := beq_eq_false_iff_ne.2 (by have := of_decide_eq_false haf.symm; omega)
     clear haf
     go_upto_region 9 with (fail)
     have hqb := HQC.out W0 HAL.out
     have TC := Lib.hid (writeString_calls B bo l' h.text W0 HBA.out (by have := HLT.out; rw [HPI.out] at this; simp [bl] at this ⊢; omega) (by have := (HAL.out).size; omega))
     go_wp2_with (go_at_call 67; refine TC.out.mono ?_; rintro e w2 ⟨rfl, hb2, hw2⟩; have HB2 := Lib.hid hb2; have HW2 := Lib.hid ((HAL.out).trans hw2); clear hb2 hw2)
     have HE2 : Hid ((l' ++ bl h.text) ++ r.src (decide (h.kind = 1)) = l ++ t.src false) := by
      have := HE.out
      rw [src_cons] at this
      unfold Hid; rw [← this, HPI.out]; simp
     have HA2 := HAN.out
     go_roundw
     case rel => exact ⟨k + 1, _, r, _, by go_num, (by have := HKI.out; omega), HB2.out, HWR.out.trans HW2.out, (by first | exact HSR | exact fun h => ⟨trivial, (HSR.out h).2⟩), hsmr, by omega, HE2, HAN⟩
     case measure => simp [intOf]; omega
   | true =>
     have hq1 : ((q : Int) == 1) = true := beq_iff_eq.2 (by have := of_decide_eq_true haf.symm; omega)
     clear haf
     have A1 : Hid (Calls Tryz.prog 110 #[.slice (some ⟨W0.heap.size, 0, none⟩) 1 1, .pointer (some ⟨w.heap.size, 0, none⟩)] (W0.alloc (.cells #[.string ⟨#[47, 42, 42, 47]⟩] 9)) fun e w' => e = .returned (.tuple #[]) ∧ Bdf B bo (l' ++ noteS) w' ∧ Wr B bo (W0.alloc (.cells #[.string ⟨#[47, 42, 42, 47]⟩] 9)) w') :=
      AC.out _ l' (HAL.out.trans (Wr.alloc _ _ hBz)) (HBA.out.below ((Below.refl _ W0).alloc (Nat.le_refl _) _)) [⟨#[47, 42, 42, 47]⟩] _ (fun j x hj => by
       have hj0 : j = 0 := by have := (List.getElem?_eq_some_iff.1 hj).1; simp at this; omega
       subst hj0; simp at hj; subst hj; simp [World.cell?_alloc_new]) (by simp) (by decide) (by have := HLT.out; rw [HPI.out] at this; simp [noteS, joinW, bls, bl] at this ⊢; omega)
     have HAN2 := Lib.hid (Wr.alloc (b := bo) W0 (.cells #[.string ⟨#[47, 42, 42, 47]⟩] 9) hBz)
     go_upto_region 9 with (go_at_call 110; refine A1.out.mono ?_; rintro e w1 ⟨rfl, hb1, hw1⟩; have HB1 := Lib.hid hb1; have HW1' := Lib.hid (HAN2.out.trans hw1); clear hb1 hw1 p0 p2 p3 p4 p5 p6 p7; obtain ⟨p0, p2, p3, p4, p5, p6, p7⟩ := HPB.out _ HW1'.out)
     have hqb := HQC.out w1 (HAL.out.trans HW1'.out)
     have TC := Lib.hid (writeString_calls B bo (l' ++ noteS) h.text w1 HB1.out (by have := HLT.out; rw [HPI.out] at this; simp [bl] at this ⊢; omega) (by have := ((HAL.out.trans HW1'.out)).size; omega))
     go_wp2_with (go_at_call 67; refine TC.out.mono ?_; rintro e w2 ⟨rfl, hb2, hw2⟩; have HB2 := Lib.hid hb2; have HW2 := Lib.hid (((HAL.out.trans HW1'.out)).trans hw2); clear hb2 hw2)
     have HE2 : Hid (((l' ++ noteS) ++ bl h.text) ++ r.src (decide (h.kind = 1)) = l ++ t.src false) := by
      have := HE.out
      rw [src_cons] at this
      unfold Hid; rw [← this, HPI.out]; simp
     have HA2 := HAN.out
     go_roundw
     case rel => exact ⟨k + 1, _, r, _, by go_num, (by have := HKI.out; omega), HB2.out, HWR.out.trans HW2.out, (by first | exact HSR | exact fun h => ⟨trivial, (HSR.out h).2⟩), hsmr, by omega, HE2, HAN⟩
     case measure => simp [intOf]; omega
set_option maxRecDepth 100000 in
set_option maxHeartbeats 40000000 in
theorem write_k2 (n : Nat) (IH : Hid (WrSaid n)) (t : Pt) (hn : t.cnt < n + 1) (B bo : Nat) (l : By) (c : Nat) (w : World) (HSM : Hid t.sm) (hcnt : t.cnt ≤ 16777216) (HLEN : Hid (l.length + (t.src false).length ≤ 16777216)) (h1 : t.len ≤ c) (h2 : c ≤ maxLen) (hbo : B ≤ bo ∧ bo < w.heap.size)
 (HBB : Hid (Bdf B bo l w)) (HB : Hid (B ≤ w.heap.size)) (b o : Nat) (hlc : t.len ≤ t.cnt) : (writeCap n IH t hn B bo l c w HSM hcnt HLEN h1 h2 hbo HBB HB b o hlc).1 2 := by
 unfold writeCap
 intro hc64 W1 HW1 HQ wr u5 u6 u7 u12 u13 u14 u15 u16 u17 u18 u19 u20 u21 u22 u23 u24 u25 u26 u27 u28 u29 u30 u31 u32 u33 u34 u35 u36 u37 u38 u39 u40 u41 u42 u43 u44 u45 u46 u47 u48 u49 u50 u51 u52 u53 u54 u55 u56 u57 u58 u59 u60 u61 u62 u63 u64 u65 u66 u67 u68 u69 u70 u71 u72 u73 u74 u75 u76 u77 u78 u79 u80 u81 u82 u83 u84 u85 u86 u87 k l' af HBD HWR h kd el r hcn HE hbB HWW g0 g1 g2 g3 g5 ak ck g6 k1 k2 ae ce g7 e1 e2 hkt hsmr s0 hbw hqw hBw HSR HLT KC EC AC HQC HKI hki HAC HAZ HAN an cn g4 PC HPB HAL HBA n1 n2 hu
 have hkn : h.kind = 2 := (lkCl_k hu).2.1 rfl
 have f1 : ((h.kind : Int) == 1) = false := beq_eq_false_iff_ne.2 (by omega)
 have f2 : ((h.kind : Int) == 2) = true := by rw [hkn]; rfl
 have f3 : ((h.kind : Int) == 3) = false := beq_eq_false_iff_ne.2 (by omega)
 have f4 : ((h.kind : Int) == 4) = false := beq_eq_false_iff_ne.2 (by omega)
 have f5 : ((h.kind : Int) == 5) = false := beq_eq_false_iff_ne.2 (by omega)
 have HPI : Hid (pieceB h kd el af = bra ++ wayS h.root (bls h.names) ++ ket) := by unfold Hid pieceB; rw [if_neg (by omega), if_pos hkn]
 have HKN := Lib.hid hkn
 clear hkn hu
 go_upto_region 11 with (fail)
 clear g0 g1 g2 g3 g4 g5 g6 g7
 unfold pCells at HPB HAL HBA
 generalize hW0 : World.alloc wr _ = W0 at *
 clear hW0
 obtain ⟨p0, p2, p3, p4, p5, p6, p7⟩ := HPB.out _ (Wr.refl _ _ _)
 have hBz : B ≤ W0.heap.size := Nat.le_trans hBw HAL.out.size
 have hway : (wayS h.root (bls h.names)).length ≤ 16777216 := by have := HLT.out; rw [HPI.out] at this; simp at this; omega
 have P1 := Lib.hid (PC.out W0 HAL.out hway)
 go_wp2_with fail
 refine P1.out.mono ?_
 rintro e w1 ⟨rfl, hb1⟩
 have HW1' := Lib.hid (HAL.out.trans (Wr.below (b := bo) hb1 hBz))
 have HB1 := Lib.hid (HBA.out.below hb1)
 clear hb1 p0 p2 p3 p4 p5 p6 p7
 have A1 : Hid (Calls Tryz.prog 110 #[.slice (some ⟨(w1).heap.size, 0, none⟩) 1 1, .pointer (some ⟨w.heap.size, 0, none⟩)] ((w1).alloc (.cells #[.string (mkB (wayS h.root (bls h.names)))] 9)) fun e w' => e = .returned (.tuple #[]) ∧ Bdf B bo (l' ++ (bra ++ wayS h.root (bls h.names) ++ ket)) w' ∧ Wr B bo (w1) w') := ac_new AC.out (w1) (l') HW1'.out HB1.out (Nat.le_trans hBw (HW1'.out).size) [(mkB (wayS h.root (bls h.names)))] (by simp) (by have := HLT.out; rw [HPI.out] at this; simp [joinW, bls, bl, mkB, kCall, kIf, kRange, kElse, kEnd, elseS, endS, bra, ket] at this ⊢; omega)
 go_wp2_with fail
 refine A1.out.mono ?_
 rintro e w2 ⟨rfl, hb2, hw2⟩
 have HB2 := Lib.hid hb2
 have HW2 := Lib.hid (HW1'.out.trans hw2)
 clear hb2 hw2
 go_wp2_with fail
 have HE2 : Hid ((l' ++ (bra ++ wayS h.root (bls h.names) ++ ket)) ++ r.src (decide (h.kind = 1)) = l ++ t.src false) := by
  have := HE.out
  rw [src_cons] at this
  unfold Hid; rw [← this, HPI.out]; simp
 have HA2 := HAN.out
 go_roundw
 case rel => exact ⟨k + 1, _, r, _, by go_num, (by have := HKI.out; omega), HB2.out, HWR.out.trans HW2.out, (by first | exact HSR | exact fun h => ⟨trivial, (HSR.out h).2⟩), hsmr, by omega, HE2, HAN⟩
 case measure => simp [intOf]; omega
set_option maxRecDepth 100000 in
set_option maxHeartbeats 40000000 in
theorem write_k5 (n : Nat) (IH : Hid (WrSaid n)) (t : Pt) (hn : t.cnt < n + 1) (B bo : Nat) (l : By) (c : Nat) (w : World) (HSM : Hid t.sm) (hcnt : t.cnt ≤ 16777216) (HLEN : Hid (l.length + (t.src false).length ≤ 16777216)) (h1 : t.len ≤ c) (h2 : c ≤ maxLen) (hbo : B ≤ bo ∧ bo < w.heap.size)
 (HBB : Hid (Bdf B bo l w)) (HB : Hid (B ≤ w.heap.size)) (b o : Nat) (hlc : t.len ≤ t.cnt) : (writeCap n IH t hn B bo l c w HSM hcnt HLEN h1 h2 hbo HBB HB b o hlc).1 5 := by
 unfold writeCap
 intro hc64 W1 HW1 HQ wr u5 u6 u7 u12 u13 u14 u15 u16 u17 u18 u19 u20 u21 u22 u23 u24 u25 u26 u27 u28 u29 u30 u31 u32 u33 u34 u35 u36 u37 u38 u39 u40 u41 u42 u43 u44 u45 u46 u47 u48 u49 u50 u51 u52 u53 u54 u55 u56 u57 u58 u59 u60 u61 u62 u63 u64 u65 u66 u67 u68 u69 u70 u71 u72 u73 u74 u75 u76 u77 u78 u79 u80 u81 u82 u83 u84 u85 u86 u87 k l' af HBD HWR h kd el r hcn HE hbB HWW g0 g1 g2 g3 g5 ak ck g6 k1 k2 ae ce g7 e1 e2 hkt hsmr s0 hbw hqw hBw HSR HLT KC EC AC HQC HKI hki HAC HAZ HAN an cn g4 PC HPB HAL HBA n1 n2 hu
 have hkn : h.kind = 5 := (lkCl_k hu).2.2.2.1 rfl
 have f1 : ((h.kind : Int) == 1) = false := beq_eq_false_iff_ne.2 (by omega)
 have f2 : ((h.kind : Int) == 2) = false := beq_eq_false_iff_ne.2 (by omega)
 have f3 : ((h.kind : Int) == 3) = false := beq_eq_false_iff_ne.2 (by omega)
 have f4 : ((h.kind : Int) == 4) = false := beq_eq_false_iff_ne.2 (by omega)
 have f5 : ((h.kind : Int) == 5) = true := by rw [hkn]; rfl
 have HPI : Hid (pieceB h kd el af = bra ++ (kCall ++ 32 :: bl h.name ++ 32 :: wayS h.root (bls h.names)) ++ ket) := by unfold Hid pieceB; rw [if_neg (by omega), if_neg (by omega), if_pos hkn]
 have HKN := Lib.hid hkn
 clear hkn hu
 go_upto_region 13 with (fail)
 clear g0 g1 g2 g3 g4 g5 g6 g7
 unfold pCells at HPB HAL HBA
 generalize hW0 : World.alloc wr _ = W0 at *
 clear hW0
 obtain ⟨p0, p2, p3, p4, p5, p6, p7⟩ := HPB.out _ (Wr.refl _ _ _)
 have hBz : B ≤ W0.heap.size := Nat.le_trans hBw HAL.out.size
 have hway : (wayS h.root (bls h.names)).length ≤ 16777216 := by have := HLT.out; rw [HPI.out] at this; simp at this; omega
 have P1 := Lib.hid (PC.out W0.drew (HAL.out.trans (Wr.drew _)) hway)
 have HBD0 : Hid (Bdf B bo l' W0.drew) := HBA.out.below ⟨rfl, rfl, rfl, Nat.le_refl _, fun _ _ => rfl⟩
 go_region_with (first
  | (go_at_call 112; refine P1.out.mono ?_; rintro e w1 ⟨rfl, hb1⟩; have HW1' := Lib.hid ((HAL.out.trans (Wr.drew (b := bo) _)).trans (Wr.below (b := bo) hb1 hBz)); have HPW := Lib.hid (HPB.out _ ((Wr.drew _).trans (Wr.below (b := bo) hb1 hBz))); have HB1 := Lib.hid (HBD0.out.below hb1); clear hb1 p0 p2 p3 p4 p5 p6 p7; obtain ⟨p0, p2, p3, p4, p5, p6, p7⟩ := HPW.out; have A1 : Hid (Calls Tryz.prog 110 #[.slice (some ⟨(w1).heap.size, 0, none⟩) 3 3, .pointer (some ⟨w.heap.size, 0, none⟩)] ((w1).alloc (.cells #[.string ⟨#[99, 97, 108, 108]⟩, .string h.name, .string (mkB (wayS h.root (bls h.names)))] 9)) fun e w' => e = .returned (.tuple #[]) ∧ Bdf B bo (l' ++ (bra ++ (kCall ++ 32 :: bl h.name ++ 32 :: wayS h.root (bls h.names)) ++ ket)) w' ∧ Wr B bo (w1) w') := ac_new AC.out (w1) (l') HW1'.out HB1.out (Nat.le_trans hBw (HW1'.out).size) [⟨#[99, 97, 108, 108]⟩, h.name, (mkB (wayS h.root (bls h.names)))] (by simp) (by have := HLT.out; rw [HPI.out] at this; simp [joinW, bls, bl, mkB, kCall, kIf, kRange, kElse, kEnd, elseS, endS, bra, ket] at this ⊢; omega))
  | (go_at_call 110; refine A1.out.mono ?_; rintro e w2 ⟨rfl, hb2, hw2⟩; have HB2 := Lib.hid hb2; have HW2 := Lib.hid (HW1'.out.trans hw2); clear hb2 hw2))
 all_goals
  go_wp2_with fail
  have HE2 : Hid ((l' ++ (bra ++ (kCall ++ 32 :: bl h.name ++ 32 :: wayS h.root (bls h.names)) ++ ket)) ++ r.src (decide (h.kind = 1)) = l ++ t.src false) := by
   have := HE.out
   rw [src_cons] at this
   unfold Hid; rw [← this, HPI.out]; simp
  have HA2 := HAN.out
  go_roundw
  case rel => exact ⟨k + 1, _, r, _, by go_num, (by have := HKI.out; omega), HB2.out, HWR.out.trans HW2.out, (by first | exact HSR | exact fun h => ⟨trivial, (HSR.out h).2⟩), hsmr, by omega, HE2, HAN⟩
  case measure => simp [intOf]; omega
end Go.Proofs.YtepcpgdfbaklfaaGreatDoor
