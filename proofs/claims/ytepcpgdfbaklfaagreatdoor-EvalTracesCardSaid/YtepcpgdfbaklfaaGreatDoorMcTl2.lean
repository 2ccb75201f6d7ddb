/- (*tmpl.look).parts at a part: kinds of class 2. The condition: as XTlk's. -/
import Derived.Test.YtepcpgdfbaklfaaGreatDoorMcTl0
set_option linter.unusedVariables false
namespace Go.Proofs.YtepcpgdfbaklfaaGreatDoor
open Go.RowKit Go.Shelf
attribute [local go_sem ↓] Go.wp_at_zero Go.wp_at_succ
set_option maxRecDepth 100000 in
set_option maxHeartbeats 40000000 in
theorem parts_k2 (B bx : Nat) (hBx : B ≤ bx) (HGL : Hid (GlB B)) (ds : List Df) (hdl : ds.length ≤ 16777216) (dv : Value) (n : Nat) (IH : Hid (LkSaid B bx ds dv n)) (t : Pt) (hn : t.cnt < n + 1) (deep0 : Nat) (free : Bool) (c many deep : Nat) (tw no : Bool) (w : World)
 (HSM : Hid t.sm) (hm : many + t.cnt ≤ 16777216) (hd : deep0 + t.cnt ≤ 16777216) (hdp : deep ≤ 16777216) (HGD : Hid (Gd w)) (HDF : Hid (Defs (· < B) w dv ds)) (h1 : t.len ≤ c) (h2 : c ≤ maxLen) (HLK : Hid (Lk bx dv many deep tw no w)) (b o : Nat)
 (hlc : t.len ≤ t.cnt) (hdc : t.deep ≤ t.cnt) : (partsCap B bx hBx HGL ds hdl dv n IH t hn deep0 free c many deep tw no w HSM hm hd hdp HGD HDF h1 h2 HLK b o hlc hdc).1 2 := by
 unfold partsCap
 intro wr u8 u9 u10 u11 u33 u34 u35 u36 u37 u38 u39 u40 u41 u42 u43 u44 u45 u46 u47 u48 u49 u50 u51 u52 u53 u54 u55 u56 u57 u58 u59 u60 u61 u62 u63 u64 u65 u66 u67 u68 u69 u70 u71 u72 u73 u74 u75 u76 u77 u78 u79 u80 u81 u82 u83 u84 u85 u86 u87 u88 u89 u90 u91 u92 u93 u94 u95 u96 u97 u98 u99 u100 u101 u102 u103 u104 u105 u106 u107 u108 u109 u110 u111 u112 u113 u114 u115 u116 u117 u118 u119 u120 u121 u122 u123 u124 u125 u126 u127 u128 u129 u130 u131 u132 u133 u134 u135 k m D N HL HG hD h kd el r hcn HNN HF HDH hbB hbxr g0 g1 g2 g3 g5 ak ck g6 k1 k2 ae ce g7 e1 e2 HRR hrc hdr hdk hde hkc hec hkt hkb1 hkb2 hkb3 hkb4 s0 s1 s2 s3 PK PE HSK HSR HPn an cn g4 NC n1 n2 GW DW HFC hgs HKI HMM hki hmi hu
 have hbxw := HLK.out.lt
 have hkn : h.kind = 2 := (lkCls_k hu).2.1 rfl
 have f1 : ((h.kind : Int) == 1) = false := beq_eq_false_iff_ne.2 (by omega)
 have f3 : ((h.kind : Int) == 3) = false := beq_eq_false_iff_ne.2 (by omega)
 have f4 : ((h.kind : Int) == 4) = false := beq_eq_false_iff_ne.2 (by omega)
 have f5 : ((h.kind : Int) == 5) = false := beq_eq_false_iff_ne.2 (by omega)
 have f2 : ((h.kind : Int) == 2) = true := by rw [hkn]; rfl
 have HKN := Lib.hid hkn
 have HKF : Hid ((if h.kind = 3 ∨ h.kind = 4 then Pt.form false kd && Pt.form false el else true) = true) := if_neg (by omega)
 have hk5 : h.kind ≠ 5 := by omega
 have hk34 : ¬ (h.kind = 3 ∨ h.kind = 4) := by omega
 clear hkn hu
 cases hno : namesOk (bls h.names) with
 | false =>
   have HOK : Hid (hdOk h kd el (free && r.isNil) = false) := by
    refine Bool.eq_false_iff.2 (fun e => ?_)
    have := (hd2 h kd el (free && r.isNil) HKN.out).1 e
    rw [hno] at this
    simp at this
   have HX : Hid (t.form free = false) := by unfold Hid; rw [← HF.out, HFC.out, HOK.out]; rfl
   rw [hno] at NC
   clear hno
   go_wp2_with fail
   refine (NC.out _ ((Gr.alloc _ _).trans (Gr.alloc _ _))).mono ?_
   rintro e w1 ⟨rfl, hb1⟩
   have G1 : Hid (Gr bx wr w1) := ((Gr.alloc _ _).trans (Gr.alloc _ _)).trans (Gr.below hb1)
   have T1 : Hid (Two wr.heap.size h (.slice an h.names.length cn) (.slice ak kd.len ck) (.slice ae el.len ce) kd el w1) := ⟨(two_new hb1).1, (two_new hb1).2.1⟩
   have L1 : Hid (Lk bx dv m D tw N w1) := HL.out.below ((((Below.refl wr.heap.size wr).alloc (Nat.le_refl _) _).alloc (by simp) _).trans (hb1.mono (by simp; omega)))
   clear hb1 g0 g1 g2 g3 g4 g5 g6 g7 NC
   obtain ⟨p0, p2, p5, p6, p7, q0, q1, q2, q3, q4, fz⟩ := T1.out.cs
   go_wp2_with fail
   exact ⟨rfl, (by first | exact HG.out.trans G1.out | exact (HG.out.trans G1.out).set_new (by omega) _ _ | exact ((HG.out.trans G1.out).set_new (by omega) _ _).set_new (by omega) _ _ | exact (((HG.out.trans G1.out).set_new (by omega) _ _).set_new (by omega) _ _).set_new (by omega) _ _ | exact ((((HG.out.trans G1.out).set_new (by omega) _ _).set_new (by omega) _ _).set_new (by omega) _ _).set_new (by omega) _ _), .inr ⟨HX.out, rfl⟩⟩
 | true =>
   have HNO := Lib.hid hno
   rw [hno] at NC
   clear hno
   go_wp2_with fail
   refine (NC.out _ ((Gr.alloc _ _).trans (Gr.alloc _ _))).mono ?_
   rintro e w1 ⟨rfl, hb1⟩
   have G1 : Hid (Gr bx wr w1) := ((Gr.alloc _ _).trans (Gr.alloc _ _)).trans (Gr.below hb1)
   have T1 : Hid (Two wr.heap.size h (.slice an h.names.length cn) (.slice ak kd.len ck) (.slice ae el.len ce) kd el w1) := ⟨(two_new hb1).1, (two_new hb1).2.1⟩
   have L1 : Hid (Lk bx dv m D tw N w1) := HL.out.below ((((Below.refl wr.heap.size wr).alloc (Nat.le_refl _) _).alloc (by simp) _).trans (hb1.mono (by simp; omega)))
   clear hb1 g0 g1 g2 g3 g4 g5 g6 g7 NC
   obtain ⟨p0, p2, p5, p6, p7, q0, q1, q2, q3, q4, fz⟩ := T1.out.cs
   go_wp2_with fail
   all_goals first
   | (have HOK : Hid (hdOk h kd el (free && r.isNil) = true) := (hd2 h kd el (free && r.isNil) HKN.out).2 ⟨HNO.out, by assumption, by assumption, by assumption⟩
      have hkl : ((kd.len : Int) + (el.len : Int) = 0) := by assumption
      obtain ⟨ek, ee⟩ := leaf_kids hkl
      have HF2 : Hid (Pt.form free r = t.form free) := by
       unfold Hid; rw [← HF.out, HFC.out, HOK.out, HKF.out]; simp
      have HD2 : Hid (max D (deep0 + r.deep) = max deep (deep0 + t.deep)) := by
       have := HDH.out
       simp only [Pt.deep] at this
       unfold Hid
       rw [if_neg hk34] at this
       omega
      have HN2 : Hid ((N || !r.called ds) = (no || !t.called ds)) := by
       unfold Hid
       rw [← HNN.out, ek, ee]
       simp [Pt.called, hk5]
      have hm2 : m + r.cnt = many + t.cnt + r.len := by have hmm := HMM.out; rw [ek, ee] at hmm; simp only [Pt.cnt] at hmm; omega
      clear HOK
      go_roundw
      case rel => exact ⟨k + 1, m, D, N, r, by go_num, (by have := HKI.out; omega), (by unfold Hid; (first | exact L1.out | exact (L1.out).other HPn.2 _ _ | exact ((L1.out).other HPn.2 _ _).other HPn.2 _ _ | exact (((L1.out).other HPn.2 _ _).other HPn.2 _ _).other HPn.2 _ _ | exact ((((L1.out).other HPn.2 _ _).other HPn.2 _ _).other HPn.2 _ _).other HPn.2 _ _)), (by unfold Hid; (first | exact HG.out.trans G1.out | exact (HG.out.trans G1.out).set_new (by omega) _ _ | exact ((HG.out.trans G1.out).set_new (by omega) _ _).set_new (by omega) _ _ | exact (((HG.out.trans G1.out).set_new (by omega) _ _).set_new (by omega) _ _).set_new (by omega) _ _ | exact ((((HG.out.trans G1.out).set_new (by omega) _ _).set_new (by omega) _ _).set_new (by omega) _ _).set_new (by omega) _ _)), HSR, HSK.out.2.2, hm2, by omega, by omega, HD2.out, HN2, HF2⟩
      case measure => simp [intOf]; omega)
   | (have HOK : Hid (hdOk h kd el (free && r.isNil) = false) := by
       refine Bool.eq_false_iff.2 (fun e => ?_)
       obtain ⟨-, x0, x1, x2⟩ := (hd2 h kd el (free && r.isNil) HKN.out).1 e
       first | exact absurd x0 (by assumption) | exact absurd x1 (by assumption) | exact absurd x2 (by assumption)
      have HX : Hid (t.form free = false) := by unfold Hid; rw [← HF.out, HFC.out, HOK.out]; rfl
      exact ⟨rfl, (by first | exact HG.out.trans G1.out | exact (HG.out.trans G1.out).set_new (by omega) _ _ | exact ((HG.out.trans G1.out).set_new (by omega) _ _).set_new (by omega) _ _ | exact (((HG.out.trans G1.out).set_new (by omega) _ _).set_new (by omega) _ _).set_new (by omega) _ _ | exact ((((HG.out.trans G1.out).set_new (by omega) _ _).set_new (by omega) _ _).set_new (by omega) _ _).set_new (by omega) _ _), .inr ⟨HX.out, rfl⟩⟩)
set_option maxRecDepth 100000 in
set_option maxHeartbeats 40000000 in
theorem parts_k0 (B bx : Nat) (hBx : B ≤ bx) (HGL : Hid (GlB B)) (ds : List Df) (hdl : ds.length ≤ 16777216) (dv : Value) (n : Nat) (IH : Hid (LkSaid B bx ds dv n)) (t : Pt) (hn : t.cnt < n + 1) (deep0 : Nat) (free : Bool) (c many deep : Nat) (tw no : Bool) (w : World)
 (HSM : Hid t.sm) (hm : many + t.cnt ≤ 16777216) (hd : deep0 + t.cnt ≤ 16777216) (hdp : deep ≤ 16777216) (HGD : Hid (Gd w)) (HDF : Hid (Defs (· < B) w dv ds)) (h1 : t.len ≤ c) (h2 : c ≤ maxLen) (HLK : Hid (Lk bx dv many deep tw no w)) (b o : Nat)
 (hlc : t.len ≤ t.cnt) (hdc : t.deep ≤ t.cnt) : (partsCap B bx hBx HGL ds hdl dv n IH t hn deep0 free c many deep tw no w HSM hm hd hdp HGD HDF h1 h2 HLK b o hlc hdc).1 0 := by
 unfold partsCap
 intro wr u8 u9 u10 u11 u33 u34 u35 u36 u37 u38 u39 u40 u41 u42 u43 u44 u45 u46 u47 u48 u49 u50 u51 u52 u53 u54 u55 u56 u57 u58 u59 u60 u61 u62 u63 u64 u65 u66 u67 u68 u69 u70 u71 u72 u73 u74 u75 u76 u77 u78 u79 u80 u81 u82 u83 u84 u85 u86 u87 u88 u89 u90 u91 u92 u93 u94 u95 u96 u97 u98 u99 u100 u101 u102 u103 u104 u105 u106 u107 u108 u109 u110 u111 u112 u113 u114 u115 u116 u117 u118 u119 u120 u121 u122 u123 u124 u125 u126 u127 u128 u129 u130 u131 u132 u133 u134 u135 k m D N HL HG hD h kd el r hcn HNN HF HDH hbB hbxr g0 g1 g2 g3 g5 ak ck g6 k1 k2 ae ce g7 e1 e2 HRR hrc hdr hdk hde hkc hec hkt hkb1 hkb2 hkb3 hkb4 s0 s1 s2 s3 PK PE HSK HSR HPn an cn g4 NC n1 n2 GW DW HFC hgs HKI HMM hki hmi hu
 have hbxw := HLK.out.lt
 have hkn := (lkCls_k hu).2.2.2.2 rfl
 obtain ⟨n1', n2', n3', n4', n5'⟩ := hkn
 have f1 : ((h.kind : Int) == 1) = false := beq_eq_false_iff_ne.2 (by omega)
 have f3 : ((h.kind : Int) == 3) = false := beq_eq_false_iff_ne.2 (by omega)
 have f4 : ((h.kind : Int) == 4) = false := beq_eq_false_iff_ne.2 (by omega)
 have f5 : ((h.kind : Int) == 5) = false := beq_eq_false_iff_ne.2 (by omega)
 have f2 : ((h.kind : Int) == 2) = false := beq_eq_false_iff_ne.2 (by omega)
 have HOK : Hid (hdOk h kd el (free && r.isNil) = false) := hd0 h kd el _ ⟨n1', n2', n3', n4', n5'⟩
 have HX : Hid (t.form free = false) := by unfold Hid; rw [← HF.out, HFC.out, HOK.out]; rfl
 clear hu
 go_wp2_with fail
 refine (NC.out _ ((Gr.alloc _ _).trans (Gr.alloc _ _))).mono ?_
 rintro e w1 ⟨rfl, hb1⟩
 have G1 : Hid (Gr bx wr w1) := ((Gr.alloc _ _).trans (Gr.alloc _ _)).trans (Gr.below hb1)
 have T1 : Hid (Two wr.heap.size h (.slice an h.names.length cn) (.slice ak kd.len ck) (.slice ae el.len ce) kd el w1) := ⟨(two_new hb1).1, (two_new hb1).2.1⟩
 have L1 : Hid (Lk bx dv m D tw N w1) := HL.out.below ((((Below.refl wr.heap.size wr).alloc (Nat.le_refl _) _).alloc (by simp) _).trans (hb1.mono (by simp; omega)))
 clear hb1 g0 g1 g2 g3 g4 g5 g6 g7 NC
 obtain ⟨p0, p2, p5, p6, p7, q0, q1, q2, q3, q4, fz⟩ := T1.out.cs
 go_wp2_with fail
 all_goals exact ⟨rfl, (by first | exact HG.out.trans G1.out | exact (HG.out.trans G1.out).set_new (by omega) _ _ | exact ((HG.out.trans G1.out).set_new (by omega) _ _).set_new (by omega) _ _ | exact (((HG.out.trans G1.out).set_new (by omega) _ _).set_new (by omega) _ _).set_new (by omega) _ _ | exact ((((HG.out.trans G1.out).set_new (by omega) _ _).set_new (by omega) _ _).set_new (by omega) _ _).set_new (by omega) _ _), .inr ⟨HX.out, rfl⟩⟩
end Go.Proofs.YtepcpgdfbaklfaaGreatDoor
