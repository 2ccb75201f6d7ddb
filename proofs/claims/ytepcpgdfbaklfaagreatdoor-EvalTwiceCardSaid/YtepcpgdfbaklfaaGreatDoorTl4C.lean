/- (*tmpl.look).parts at a part: kinds of class 3. The condition: as XTlk's. -/
import Derived.Test.YtepcpgdfbaklfaaGreatDoorMcTl0
set_option linter.unusedVariables false
namespace Go.Proofs.YtepcpgdfbaklfaaGreatDoor
open Go.RowKit Go.Shelf
attribute [local go_sem ↓] Go.wp_at_zero Go.wp_at_succ
set_option maxRecDepth 100000 in
set_option maxHeartbeats 40000000 in
theorem parts_k3 (B bx : Nat) (hBx : B ≤ bx) (HGL : Hid (GlB B)) (ds : List Df) (hdl : ds.length ≤ 16777216) (dv : Value) (n : Nat) (IH : Hid (LkSaid B bx ds dv n)) (t : Pt) (hn : t.cnt < n + 1) (deep0 : Nat) (free : Bool) (c many deep : Nat) (tw no : Bool) (w : World)
 (HSM : Hid t.sm) (hm : many + t.cnt ≤ 16777216) (hd : deep0 + t.cnt ≤ 16777216) (hdp : deep ≤ 16777216) (HGD : Hid (Gd w)) (HDF : Hid (Defs (· < B) w dv ds)) (h1 : t.len ≤ c) (h2 : c ≤ maxLen) (HLK : Hid (Lk bx dv many deep tw no w)) (b o : Nat)
 (hlc : t.len ≤ t.cnt) (hdc : t.deep ≤ t.cnt) : (partsCap B bx hBx HGL ds hdl dv n IH t hn deep0 free c many deep tw no w HSM hm hd hdp HGD HDF h1 h2 HLK b o hlc hdc).1 3 := by
 unfold partsCap
 intro wr u8 u9 u10 u11 u33 u34 u35 u36 u37 u38 u39 u40 u41 u42 u43 u44 u45 u46 u47 u48 u49 u50 u51 u52 u53 u54 u55 u56 u57 u58 u59 u60 u61 u62 u63 u64 u65 u66 u67 u68 u69 u70 u71 u72 u73 u74 u75 u76 u77 u78 u79 u80 u81 u82 u83 u84 u85 u86 u87 u88 u89 u90 u91 u92 u93 u94 u95 u96 u97 u98 u99 u100 u101 u102 u103 u104 u105 u106 u107 u108 u109 u110 u111 u112 u113 u114 u115 u116 u117 u118 u119 u120 u121 u122 u123 u124 u125 u126 u127 u128 u129 u130 u131 u132 u133 u134 u135 k m D N HL HG hD h kd el r hcn HNN HF HDH hbB hbxr g0 g1 g2 g3 g5 ak ck g6 k1 k2 ae ce g7 e1 e2 HRR hrc hdr hdk hde hkc hec hkt hkb1 hkb2 hkb3 hkb4 s0 s1 s2 s3 PK PE HSK HSR HPn an cn g4 NC n1 n2 GW DW HFC hgs HKI HMM hki hmi hu
 have hbxw := HLK.out.lt
 have hk34 : h.kind = 3 ∨ h.kind = 4 := (lkCls_k hu).2.2.1 rfl
 have hk5 : h.kind ≠ 5 := by omega
 have HK34 := Lib.hid hk34
 have hD2 : D ≤ 16777216 := by have := HDH.out; omega
 have wd : IntKind.i64.wrap ((deep0 : Int) + 1) = (deep0 : Int) + 1 := by rw [IntWalk.i64_in _ (by omega)]
 have hce : ((deep0 + 1 : Nat) : Int) = (deep0 : Int) + 1 := by omega
 have CK : Hid (∀ W, Gr bx wr W → Lk bx dv m D tw N W → Calls Tryz.prog 38 #[.pointer (some ⟨bx, 0, none⟩), .slice ak kd.len ck, .int .i64 ((deep0 : Int) + 1), .bool false] W (LkPost bx dv (m + kd.cnt) (max D (deep0 + 1 + kd.deep)) tw (N || !kd.called ds) (kd.form false) W)) := fun W hW hL => by
  have := IH.out kd (by omega) (deep0 + 1) false (.slice ak kd.len ck) m D tw N W HSK.out.1 (by omega) (by omega) hD2 (GW.out _ (HG.out.trans hW)) (DW.out _ (HG.out.trans hW)) (PK.out.kept (hW.keptB hBx hbxr)) hL
  rwa [hce] at this
 have CE : Hid (∀ W, Gr bx wr W → Lk bx dv (((m + kd.cnt) : Nat) : Int) (((max D (deep0 + 1 + kd.deep)) : Nat) : Int) tw (N || !kd.called ds) W → Calls Tryz.prog 38 #[.pointer (some ⟨bx, 0, none⟩), .slice ae el.len ce, .int .i64 ((deep0 : Int) + 1), .bool false] W (LkPost bx dv ((m + kd.cnt) + el.cnt) (max (max D (deep0 + 1 + kd.deep)) (deep0 + 1 + el.deep)) tw ((N || !kd.called ds) || !el.called ds) (el.form false) W)) := fun W hW hL => by
  have := IH.out el (by omega) (deep0 + 1) false (.slice ae el.len ce) (m + kd.cnt) (max D (deep0 + 1 + kd.deep)) tw (N || !kd.called ds) W HSK.out.2.1 (by omega) (by omega) (by omega) (GW.out _ (HG.out.trans hW)) (DW.out _ (HG.out.trans hW)) (PE.out.kept (hW.keptB hBx hbxr)) hL
  rwa [hce] at this
 clear hce hu
 rcases hk34 with hkn | hkn
 ·
  have f1 : ((h.kind : Int) == 1) = false := beq_eq_false_iff_ne.2 (by omega)
  have f3 : ((h.kind : Int) == 3) = true := by rw [hkn]; rfl
  clear hkn
  cases hno : namesOk (bls h.names) with
  | false =>
    rw [hno] at NC
    have HOK : Hid (hdOk h kd el (free && r.isNil) = false) := by
     refine Bool.eq_false_iff.2 (fun e => ?_)
     have := ((hd34 h kd el _ HK34.out).1 e).1
     rw [hno] at this
     cases this
    have HX : Hid (t.form free = false) := by unfold Hid; rw [← HF.out, HFC.out, HOK.out]; rfl
    clear hno
    go_wp2_with fail
    refine (NC.out _ ((Gr.alloc _ _).trans (Gr.alloc _ _))).mono ?_
    rintro e w1 ⟨rfl, hb1⟩
    have G1 : Hid (Gr bx wr w1) := ((Gr.alloc _ _).trans (Gr.alloc _ _)).trans (Gr.below hb1)
    have T1 : Hid (Two wr.heap.size h (.slice an h.names.length cn) (.slice ak kd.len ck) (.slice ae el.len ce) kd el w1) := ⟨(two_new hb1).1, (two_new hb1).2.1⟩
    have L1 : Hid (Lk bx dv m D tw N w1) := HL.out.below ((((Below.refl wr.heap.size wr).alloc (Nat.le_refl _) _).alloc (by simp) _).trans (hb1.mono (by simp; omega)))
    clear hb1 g0 g1 g2 g3 g4 g5 g6 g7 NC
    obtain ⟨p0, p2, p5, p6, p7, q0, q1, q2, q3, q4, fz⟩ := T1.out.cs
    go_wp2_with fail
    refine (CK.out _ G1.out L1.out).mono ?_
    rintro e w2 ⟨g2, hr2⟩
    rcases hr2 with ⟨hfk, rfl, l2⟩ | ⟨hfk, rfl⟩
    rotate_left
    ·
     have G2 := Lib.hid (G1.out.trans g2)
     exact ⟨rfl, (by first | exact HG.out.trans G2.out | exact (HG.out.trans G2.out).set_new (by omega) _ _ | exact ((HG.out.trans G2.out).set_new (by omega) _ _).set_new (by omega) _ _ | exact (((HG.out.trans G2.out).set_new (by omega) _ _).set_new (by omega) _ _).set_new (by omega) _ _ | exact ((((HG.out.trans G2.out).set_new (by omega) _ _).set_new (by omega) _ _).set_new (by omega) _ _).set_new (by omega) _ _), .inr ⟨HX.out, rfl⟩⟩
    have HFK := Lib.hid hfk
    have L2 := Lib.hid l2
    have G2 := Lib.hid (G1.out.trans g2)
    have T2 := Lib.hid (T1.out.gr g2 HPn.1 HPn.2)
    clear hfk l2 g2 p0 p2 p5 p6 p7 q0 q1 q2 q3 q4 fz CK L1
    obtain ⟨p0, p2, p5, p6, p7, q0, q1, q2, q3, q4, fz⟩ := T2.out.cs
    go_wp2_with fail
    refine (CE.out _ G2.out L2.out).mono ?_
    rintro e w3 ⟨g3, hr3⟩
    rcases hr3 with ⟨hfe, rfl, l3⟩ | ⟨hfe, rfl⟩
    rotate_left
    ·
     have G3 := Lib.hid (G2.out.trans g3)
     exact ⟨rfl, (by first | exact HG.out.trans G3.out | exact (HG.out.trans G3.out).set_new (by omega) _ _ | exact ((HG.out.trans G3.out).set_new (by omega) _ _).set_new (by omega) _ _ | exact (((HG.out.trans G3.out).set_new (by omega) _ _).set_new (by omega) _ _).set_new (by omega) _ _ | exact ((((HG.out.trans G3.out).set_new (by omega) _ _).set_new (by omega) _ _).set_new (by omega) _ _).set_new (by omega) _ _), .inr ⟨HX.out, rfl⟩⟩
    have HFE := Lib.hid hfe
    have L3 := Lib.hid l3
    have G3 := Lib.hid (G2.out.trans g3)
    have T3 := Lib.hid (T2.out.gr g3 HPn.1 HPn.2)
    clear hfe l3 g3 p0 p2 p5 p6 p7 q0 q1 q2 q3 q4 fz CE L2
    obtain ⟨p0, p2, p5, p6, p7, q0, q1, q2, q3, q4, fz⟩ := T3.out.cs
    go_wp2_with fail
    all_goals exact ⟨rfl, (by first | exact HG.out.trans G3.out | exact (HG.out.trans G3.out).set_new (by omega) _ _ | exact ((HG.out.trans G3.out).set_new (by omega) _ _).set_new (by omega) _ _ | exact (((HG.out.trans G3.out).set_new (by omega) _ _).set_new (by omega) _ _).set_new (by omega) _ _ | exact ((((HG.out.trans G3.out).set_new (by omega) _ _).set_new (by omega) _ _).set_new (by omega) _ _).set_new (by omega) _ _), .inr ⟨HX.out, rfl⟩⟩
  | true =>
    rw [hno] at NC
    have HNO := Lib.hid hno
    clear hno
    go_wp2_with fail
    refine (NC.out _ ((Gr.alloc _ _).trans (Gr.alloc _ _))).mono ?_
    rintro e w1 ⟨rfl, hb1⟩
    have G1 : Hid (Gr bx wr w1) := ((Gr.alloc _ _).trans (Gr.alloc _ _)).trans (Gr.below hb1)
    have T1 : Hid (Two wr.heap.size h (.slice an h.names.length cn) (.slice ak kd.len ck) (.slice ae el.len ce) kd el w1) := ⟨(two_new hb1).1, (two_new hb1).2.1⟩
    have L1 : Hid (Lk bx dv m D tw N w1) := HL.out.below ((((Below.refl wr.heap.size wr).alloc (Nat.le_refl _) _).alloc (by simp) _).trans (hb1.mono (by simp; omega)))
    clear hb1 g0 g1 g2 g3 g4 g5 g6 g7 NC
    obtain ⟨p0, p2, p5, p6, p7, q0, q1, q2, q3, q4, fz⟩ := T1.out.cs
    go_wp2_with fail
    refine (CK.out _ G1.out L1.out).mono ?_
    rintro e w2 ⟨g2, hr2⟩
    rcases hr2 with ⟨hfk, rfl, l2⟩ | ⟨hfk, rfl⟩
    rotate_left
    ·
     have HX : Hid (t.form free = false) := by unfold Hid; rw [← HF.out, HFC.out, if_pos HK34.out, hfk]; simp
     have G2 := Lib.hid (G1.out.trans g2)
     exact ⟨rfl, (by first | exact HG.out.trans G2.out | exact (HG.out.trans G2.out).set_new (by omega) _ _ | exact ((HG.out.trans G2.out).set_new (by omega) _ _).set_new (by omega) _ _ | exact (((HG.out.trans G2.out).set_new (by omega) _ _).set_new (by omega) _ _).set_new (by omega) _ _ | exact ((((HG.out.trans G2.out).set_new (by omega) _ _).set_new (by omega) _ _).set_new (by omega) _ _).set_new (by omega) _ _), .inr ⟨HX.out, rfl⟩⟩
    have HFK := Lib.hid hfk
    have L2 := Lib.hid l2
    have G2 := Lib.hid (G1.out.trans g2)
    have T2 := Lib.hid (T1.out.gr g2 HPn.1 HPn.2)
    clear hfk l2 g2 p0 p2 p5 p6 p7 q0 q1 q2 q3 q4 fz CK L1
    obtain ⟨p0, p2, p5, p6, p7, q0, q1, q2, q3, q4, fz⟩ := T2.out.cs
    go_wp2_with fail
    refine (CE.out _ G2.out L2.out).mono ?_
    rintro e w3 ⟨g3, hr3⟩
    rcases hr3 with ⟨hfe, rfl, l3⟩ | ⟨hfe, rfl⟩
    rotate_left
    ·
     have HX : Hid (t.form free = false) := by unfold Hid; rw [← HF.out, HFC.out, if_pos HK34.out, hfe]; simp
     have G3 := Lib.hid (G2.out.trans g3)
     exact ⟨rfl, (by first | exact HG.out.trans G3.out | exact (HG.out.trans G3.out).set_new (by omega) _ _ | exact ((HG.out.trans G3.out).set_new (by omega) _ _).set_new (by omega) _ _ | exact (((HG.out.trans G3.out).set_new (by omega) _ _).set_new (by omega) _ _).set_new (by omega) _ _ | exact ((((HG.out.trans G3.out).set_new (by omega) _ _).set_new (by omega) _ _).set_new (by omega) _ _).set_new (by omega) _ _), .inr ⟨HX.out, rfl⟩⟩
    have HFE := Lib.hid hfe
    have L3 := Lib.hid l3
    have G3 := Lib.hid (G2.out.trans g3)
    have T3 := Lib.hid (T2.out.gr g3 HPn.1 HPn.2)
    clear hfe l3 g3 p0 p2 p5 p6 p7 q0 q1 q2 q3 q4 fz CE L2
    obtain ⟨p0, p2, p5, p6, p7, q0, q1, q2, q3, q4, fz⟩ := T3.out.cs
    go_wp2_with fail
    all_goals first
    | (have HOK : Hid (hdOk h kd el (free && r.isNil) = true) := (hd34 h kd el _ HK34.out).2 ⟨HNO.out, by assumption, by assumption⟩
       have HF2 : Hid (Pt.form free r = t.form free) := by
        unfold Hid; rw [← HF.out, HFC.out, HOK.out, if_pos HK34.out, HFK.out, HFE.out]; simp
       have HD2 : Hid (max (max (max D (deep0 + 1 + kd.deep)) (deep0 + 1 + el.deep)) (deep0 + r.deep) = max deep (deep0 + t.deep)) := by
        have := HDH.out
        simp only [Pt.deep] at this
        unfold Hid
        rw [if_pos HK34.out] at this
        omega
       have HN2 : Hid ((((N || !kd.called ds) || !el.called ds) || !r.called ds) = (no || !t.called ds)) := by
        unfold Hid
        rw [← HNN.out]
        simp [Pt.called, hk5, Bool.not_and, Bool.or_assoc]
       have hm2 : (m + kd.cnt + el.cnt) + r.cnt = many + t.cnt + r.len := by have hmm := HMM.out; omega
       clear HOK
       go_roundw
       case rel => exact ⟨k + 1, (m + kd.cnt + el.cnt), (max (max D (deep0 + 1 + kd.deep)) (deep0 + 1 + el.deep)), ((N || !kd.called ds) || !el.called ds), r, by go_num, (by have := HKI.out; omega), (by unfold Hid; (first | exact L3.out | exact (L3.out).other HPn.2 _ _ | exact ((L3.out).other HPn.2 _ _).other HPn.2 _ _ | exact (((L3.out).other HPn.2 _ _).other HPn.2 _ _).other HPn.2 _ _ | exact ((((L3.out).other HPn.2 _ _).other HPn.2 _ _).other HPn.2 _ _).other HPn.2 _ _)), (by unfold Hid; (first | exact HG.out.trans G3.out | exact (HG.out.trans G3.out).set_new (by omega) _ _ | exact ((HG.out.trans G3.out).set_new (by omega) _ _).set_new (by omega) _ _ | exact (((HG.out.trans G3.out).set_new (by omega) _ _).set_new (by omega) _ _).set_new (by omega) _ _ | exact ((((HG.out.trans G3.out).set_new (by omega) _ _).set_new (by omega) _ _).set_new (by omega) _ _).set_new (by omega) _ _)), HSR, HSK.out.2.2, hm2, by omega, by omega, HD2.out, HN2, HF2⟩
       case measure => simp [intOf]; omega)
    | (have HOK : Hid (hdOk h kd el (free && r.isNil) = false) := by
        refine Bool.eq_false_iff.2 (fun e => ?_)
        obtain ⟨-, x0, x1⟩ := (hd34 h kd el _ HK34.out).1 e
        first | exact absurd x0 (by assumption) | exact absurd x1 (by assumption)
       have HX : Hid (t.form free = false) := by unfold Hid; rw [← HF.out, HFC.out, HOK.out]; rfl
       exact ⟨rfl, (by first | exact HG.out.trans G3.out | exact (HG.out.trans G3.out).set_new (by omega) _ _ | exact ((HG.out.trans G3.out).set_new (by omega) _ _).set_new (by omega) _ _ | exact (((HG.out.trans G3.out).set_new (by omega) _ _).set_new (by omega) _ _).set_new (by omega) _ _ | exact ((((HG.out.trans G3.out).set_new (by omega) _ _).set_new (by omega) _ _).set_new (by omega) _ _).set_new (by omega) _ _), .inr ⟨HX.out, rfl⟩⟩)
 ·
  have f1 : ((h.kind : Int) == 1) = false := beq_eq_false_iff_ne.2 (by omega)
  have f3 : ((h.kind : Int) == 3) = false := beq_eq_false_iff_ne.2 (by omega)
  have f4 : ((h.kind : Int) == 4) = true := by rw [hkn]; rfl
  clear hkn
  cases hno : namesOk (bls h.names) with
  | false =>
    rw [hno] at NC
    have HOK : Hid (hdOk h kd el (free && r.isNil) = false) := by
     refine Bool.eq_false_iff.2 (fun e => ?_)
     have := ((hd34 h kd el _ HK34.out).1 e).1
     rw [hno] at this
     cases this
    have HX : Hid (t.form free = false) := by unfold Hid; rw [← HF.out, HFC.out, HOK.out]; rfl
    clear hno
    go_wp2_with fail
    refine (NC.out _ ((Gr.alloc _ _).trans (Gr.alloc _ _))).mono ?_
    rintro e w1 ⟨rfl, hb1⟩
    have G1 : Hid (Gr bx wr w1) := ((Gr.alloc _ _).trans (Gr.alloc _ _)).trans (Gr.below hb1)
    have T1 : Hid (Two wr.heap.size h (.slice an h.names.length cn) (.slice ak kd.len ck) (.slice ae el.len ce) kd el w1) := ⟨(two_new hb1).1, (two_new hb1).2.1⟩
    have L1 : Hid (Lk bx dv m D tw N w1) := HL.out.below ((((Below.refl wr.heap.size wr).alloc (Nat.le_refl _) _).alloc (by simp) _).trans (hb1.mono (by simp; omega)))
    clear hb1 g0 g1 g2 g3 g4 g5 g6 g7 NC
    obtain ⟨p0, p2, p5, p6, p7, q0, q1, q2, q3, q4, fz⟩ := T1.out.cs
    go_wp2_with fail
    refine (CK.out _ G1.out L1.out).mono ?_
    rintro e w2 ⟨g2, hr2⟩
    rcases hr2 with ⟨hfk, rfl, l2⟩ | ⟨hfk, rfl⟩
    rotate_left
    ·
     have G2 := Lib.hid (G1.out.trans g2)
     exact ⟨rfl, (by first | exact HG.out.trans G2.out | exact (HG.out.trans G2.out).set_new (by omega) _ _ | exact ((HG.out.trans G2.out).set_new (by omega) _ _).set_new (by omega) _ _ | exact (((HG.out.trans G2.out).set_new (by omega) _ _).set_new (by omega) _ _).set_new (by omega) _ _ | exact ((((HG.out.trans G2.out).set_new (by omega) _ _).set_new (by omega) _ _).set_new (by omega) _ _).set_new (by omega) _ _), .inr ⟨HX.out, rfl⟩⟩
    have HFK := Lib.hid hfk
    have L2 := Lib.hid l2
    have G2 := Lib.hid (G1.out.trans g2)
    have T2 := Lib.hid (T1.out.gr g2 HPn.1 HPn.2)
    clear hfk l2 g2 p0 p2 p5 p6 p7 q0 q1 q2 q3 q4 fz CK L1
    obtain ⟨p0, p2, p5, p6, p7, q0, q1, q2, q3, q4, fz⟩ := T2.out.cs
    go_wp2_with fail
    refine (CE.out _ G2.out L2.out).mono ?_
    rintro e w3 ⟨g3, hr3⟩
    rcases hr3 with ⟨hfe, rfl, l3⟩ | ⟨hfe, rfl⟩
    rotate_left
    ·
     have G3 := Lib.hid (G2.out.trans g3)
     exact ⟨rfl, (by first | exact HG.out.trans G3.out | exact (HG.out.trans G3.out).set_new (by omega) _ _ | exact ((HG.out.trans G3.out).set_new (by omega) _ _).set_new (by omega) _ _ | exact (((HG.out.trans G3.out).set_new (by omega) _ _).set_new (by omega) _ _).set_new (by omega) _ _ | exact ((((HG.out.trans G3.out).set_new (by omega) _ _).set_new (by omega) _ _).set_new (by omega) _ _).set_new (by omega) _ _), .inr ⟨HX.out, rfl⟩⟩
    have HFE := Lib.hid hfe
    have L3 := Lib.hid l3
    have G3 := Lib.hid (G2.out.trans g3)
    have T3 := Lib.hid (T2.out.gr g3 HPn.1 HPn.2)
    clear hfe l3 g3 p0 p2 p5 p6 p7 q0 q1 q2 q3 q4 fz CE L2
    obtain ⟨p0, p2, p5, p6, p7, q0, q1, q2, q3, q4, fz⟩ := T3.out.cs
    go_wp2_with fail
    all_goals exact ⟨rfl, (by first | exact HG.out.trans G3.out | exact (HG.out.trans G3.out).set_new (by omega) _ _ | exact ((HG.out.trans G3.out).set_new (by omega) _ _).set_new (by omega) _ _ | exact (((HG.out.trans G3.out).set_new (by omega) _ _).set_new (by omega) _ _).set_new (by omega) _ _ | exact ((((HG.out.trans G3.out).set_new (by omega) _ _).set_new (by omega) _ _).set_new (by omega) _ _).set_new (by omega) _ _), .inr ⟨HX.out, rfl⟩⟩
  | true =>
    rw [hno] at NC
    have HNO := Lib.hid hno
    clear hno
    go_wp2_with fail
    refine (NC.out _ ((Gr.alloc _ _).trans (Gr.alloc _ _))).mono ?_
    rintro e w1 ⟨rfl, hb1⟩
    have G1 : Hid (Gr bx wr w1) := ((Gr.alloc _ _).trans (Gr.alloc _ _)).trans (Gr.below hb1)
    have T1 : Hid (Two wr.heap.size h (.slice an h.names.length cn) (.slice ak kd.len ck) (.slice ae el.len ce) kd el w1) := ⟨(two_new hb1).1, (two_new hb1).2.1⟩
    have L1 : Hid (Lk bx dv m D tw N w1) := HL.out.below ((((Below.refl wr.heap.size wr).alloc (Nat.le_refl _) _).alloc (by simp) _).trans (hb1.mono (by simp; omega)))
    clear hb1 g0 g1 g2 g3 g4 g5 g6 g7 NC
    obtain ⟨p0, p2, p5, p6, p7, q0, q1, q2, q3, q4, fz⟩ := T1.out.cs
    go_wp2_with fail
    refine (CK.out _ G1.out L1.out).mono ?_
    rintro e w2 ⟨g2, hr2⟩
    rcases hr2 with ⟨hfk, rfl, l2⟩ | ⟨hfk, rfl⟩
    rotate_left
    ·
     have HX : Hid (t.form free = false) := by unfold Hid; rw [← HF.out, HFC.out, if_pos HK34.out, hfk]; simp
     have G2 := Lib.hid (G1.out.trans g2)
     exact ⟨rfl, (by first | exact HG.out.trans G2.out | exact (HG.out.trans G2.out).set_new (by omega) _ _ | exact ((HG.out.trans G2.out).set_new (by omega) _ _).set_new (by omega) _ _ | exact (((HG.out.trans G2.out).set_new (by omega) _ _).set_new (by omega) _ _).set_new (by omega) _ _ | exact ((((HG.out.trans G2.out).set_new (by omega) _ _).set_new (by omega) _ _).set_new (by omega) _ _).set_new (by omega) _ _), .inr ⟨HX.out, rfl⟩⟩
    have HFK := Lib.hid hfk
    have L2 := Lib.hid l2
    have G2 := Lib.hid (G1.out.trans g2)
    have T2 := Lib.hid (T1.out.gr g2 HPn.1 HPn.2)
    clear hfk l2 g2 p0 p2 p5 p6 p7 q0 q1 q2 q3 q4 fz CK L1
    obtain ⟨p0, p2, p5, p6, p7, q0, q1, q2, q3, q4, fz⟩ := T2.out.cs
    go_wp2_with fail
    refine (CE.out _ G2.out L2.out).mono ?_
    rintro e w3 ⟨g3, hr3⟩
    rcases hr3 with ⟨hfe, rfl, l3⟩ | ⟨hfe, rfl⟩
    rotate_left
    ·
     have HX : Hid (t.form free = false) := by unfold Hid; rw [← HF.out, HFC.out, if_pos HK34.out, hfe]; simp
     have G3 := Lib.hid (G2.out.trans g3)
     exact ⟨rfl, (by first | exact HG.out.trans G3.out | exact (HG.out.trans G3.out).set_new (by omega) _ _ | exact ((HG.out.trans G3.out).set_new (by omega) _ _).set_new (by omega) _ _ | exact (((HG.out.trans G3.out).set_new (by omega) _ _).set_new (by omega) _ _).set_new (by omega) _ _ | exact ((((HG.out.trans G3.out).set_new (by omega) _ _).set_new (by omega) _ _).set_new (by omega) _ _).set_new (by omega) _ _), .inr ⟨HX.out, rfl⟩⟩
    have HFE := Lib.hid hfe
    have L3 := Lib.hid l3
    have G3 := Lib.hid (G2.out.trans g3)
    have T3 := Lib.hid (T2.out.gr g3 HPn.1 HPn.2)
    clear hfe l3 g3 p0 p2 p5 p6 p7 q0 q1 q2 q3 q4 fz CE L2
    obtain ⟨p0, p2, p5, p6, p7, q0, q1, q2, q3, q4, fz⟩ := T3.out.cs
    go_wp2_with fail
    all_goals first
    | (have HOK : Hid (hdOk h kd el (free && r.isNil) = true) := (hd34 h kd el _ HK34.out).2 ⟨HNO.out, by assumption, by assumption⟩
       have HF2 : Hid (Pt.form free r = t.form free) := by
        unfold Hid; rw [← HF.out, HFC.out, HOK.out, if_pos HK34.out, HFK.out, HFE.out]; simp
       have HD2 : Hid (max (max (max D (deep0 + 1 + kd.deep)) (deep0 + 1 + el.deep)) (deep0 + r.deep) = max deep (deep0 + t.deep)) := by
        have := HDH.out
        simp only [Pt.deep] at this
        unfold Hid
        rw [if_pos HK34.out] at this
        omega
       have HN2 : Hid ((((N || !kd.called ds) || !el.called ds) || !r.called ds) = (no || !t.called ds)) := by
        unfold Hid
        rw [← HNN.out]
        simp [Pt.called, hk5, Bool.not_and, Bool.or_assoc]
       have hm2 : (m + kd.cnt + el.cnt) + r.cnt = many + t.cnt + r.len := by have hmm := HMM.out; omega
       clear HOK
       go_roundw
       case rel => exact ⟨k + 1, (m + kd.cnt + el.cnt), (max (max D (deep0 + 1 + kd.deep)) (deep0 + 1 + el.deep)), ((N || !kd.called ds) || !el.called ds), r, by go_num, (by have := HKI.out; omega), (by unfold Hid; (first | exact L3.out | exact (L3.out).other HPn.2 _ _ | exact ((L3.out).other HPn.2 _ _).other HPn.2 _ _ | exact (((L3.out).other HPn.2 _ _).other HPn.2 _ _).other HPn.2 _ _ | exact ((((L3.out).other HPn.2 _ _).other HPn.2 _ _).other HPn.2 _ _).other HPn.2 _ _)), (by unfold Hid; (first | exact HG.out.trans G3.out | exact (HG.out.trans G3.out).set_new (by omega) _ _ | exact ((HG.out.trans G3.out).set_new (by omega) _ _).set_new (by omega) _ _ | exact (((HG.out.trans G3.out).set_new (by omega) _ _).set_new (by omega) _ _).set_new (by omega) _ _ | exact ((((HG.out.trans G3.out).set_new (by omega) _ _).set_new (by omega) _ _).set_new (by omega) _ _).set_new (by omega) _ _)), HSR, HSK.out.2.2, hm2, by omega, by omega, HD2.out, HN2, HF2⟩
       case measure => simp [intOf]; omega)
    | (have HOK : Hid (hdOk h kd el (free && r.isNil) = false) := by
        refine Bool.eq_false_iff.2 (fun e => ?_)
        obtain ⟨-, x0, x1⟩ := (hd34 h kd el _ HK34.out).1 e
        first | exact absurd x0 (by assumption) | exact absurd x1 (by assumption)
       have HX : Hid (t.form free = false) := by unfold Hid; rw [← HF.out, HFC.out, HOK.out]; rfl
       exact ⟨rfl, (by first | exact HG.out.trans G3.out | exact (HG.out.trans G3.out).set_new (by omega) _ _ | exact ((HG.out.trans G3.out).set_new (by omega) _ _).set_new (by omega) _ _ | exact (((HG.out.trans G3.out).set_new (by omega) _ _).set_new (by omega) _ _).set_new (by omega) _ _ | exact ((((HG.out.trans G3.out).set_new (by omega) _ _).set_new (by omega) _ _).set_new (by omega) _ _).set_new (by omega) _ _), .inr ⟨HX.out, rfl⟩⟩)
end Go.Proofs.YtepcpgdfbaklfaaGreatDoor
