/- (*tmpl.look).parts at a part: kinds of class 5. The condition: as XTlk's. -/
import Derived.Test.YtepcpgdfbaklfaaGreatDoorMcTl0
set_option linter.unusedVariables false
namespace Go.Proofs.YtepcpgdfbaklfaaGreatDoor
open Go.RowKit Go.Shelf
attribute [local go_sem ↓] Go.wp_at_zero Go.wp_at_succ
theorem bdrew (B : Nat) (w : World) : Below B w w.drew := ⟨rfl, rfl, rfl, Nat.le_refl _, fun _ _ => rfl⟩
set_option maxRecDepth 100000 in
set_option maxHeartbeats 40000000 in
theorem parts_k5 (B bx : Nat) (hBx : B ≤ bx) (HGL : Hid (GlB B)) (ds : List Df) (hdl : ds.length ≤ 16777216) (dv : Value) (n : Nat) (IH : Hid (LkSaid B bx ds dv n)) (t : Pt) (hn : t.cnt < n + 1) (deep0 : Nat) (free : Bool) (c many deep : Nat) (tw no : Bool) (w : World)
 (HSM : Hid t.sm) (hm : many + t.cnt ≤ 16777216) (hd : deep0 + t.cnt ≤ 16777216) (hdp : deep ≤ 16777216) (HGD : Hid (Gd w)) (HDF : Hid (Defs (· < B) w dv ds)) (h1 : t.len ≤ c) (h2 : c ≤ maxLen) (HLK : Hid (Lk bx dv many deep tw no w)) (b o : Nat)
 (hlc : t.len ≤ t.cnt) (hdc : t.deep ≤ t.cnt) : (partsCap B bx hBx HGL ds hdl dv n IH t hn deep0 free c many deep tw no w HSM hm hd hdp HGD HDF h1 h2 HLK b o hlc hdc).1 5 := by
 unfold partsCap
 intro wr u8 u9 u10 u11 u33 u34 u35 u36 u37 u38 u39 u40 u41 u42 u43 u44 u45 u46 u47 u48 u49 u50 u51 u52 u53 u54 u55 u56 u57 u58 u59 u60 u61 u62 u63 u64 u65 u66 u67 u68 u69 u70 u71 u72 u73 u74 u75 u76 u77 u78 u79 u80 u81 u82 u83 u84 u85 u86 u87 u88 u89 u90 u91 u92 u93 u94 u95 u96 u97 u98 u99 u100 u101 u102 u103 u104 u105 u106 u107 u108 u109 u110 u111 u112 u113 u114 u115 u116 u117 u118 u119 u120 u121 u122 u123 u124 u125 u126 u127 u128 u129 u130 u131 u132 u133 u134 u135 k m D N HL HG hD h kd el r hcn HNN HF HDH hbB hbxr g0 g1 g2 g3 g5 ak ck g6 k1 k2 ae ce g7 e1 e2 HRR hrc hdr hdk hde hkc hec hkt hkb1 hkb2 hkb3 hkb4 s0 s1 s2 s3 PK PE HSK HSR HPn an cn g4 NC n1 n2 GW DW HFC hgs HKI HMM hki hmi hu
 have hbxw := HLK.out.lt
 have hkn : h.kind = 5 := (lkCls_k hu).2.2.2.1 rfl
 have f1 : ((h.kind : Int) == 1) = false := beq_eq_false_iff_ne.2 (by omega)
 have f3 : ((h.kind : Int) == 3) = false := beq_eq_false_iff_ne.2 (by omega)
 have f4 : ((h.kind : Int) == 4) = false := beq_eq_false_iff_ne.2 (by omega)
 have f5 : ((h.kind : Int) == 5) = true := by rw [hkn]; rfl
 have HKN := Lib.hid hkn
 have HKF : Hid ((if h.kind = 3 ∨ h.kind = 4 then Pt.form false kd && Pt.form false el else true) = true) := if_neg (by omega)
 have hk34 : ¬ (h.kind = 3 ∨ h.kind = 4) := by omega
 clear hkn hu
 have MC : Hid (∀ W, Calls Tryz.prog 39 #[.string h.name] W fun e w' => e = .returned (.bool (nameOk (bl h.name))) ∧ Below W.heap.size W w') := fun W => name_calls h.name (by omega) W
 have DC : Hid (∀ W, Gr bx w W → Calls Tryz.prog 48 #[dv, .string h.name] W fun e w' => e = .returned (.bool (hasDef ds (bl h.name))) ∧ Below W.heap.size W w') := fun W hW => defined_calls (· < B) ds (by omega) h.name dv W (DW.out W hW) (fun b hb => by have := hW.size; have hb' : b < B := hb; omega)
 cases hno : namesOk (bls h.names) with
 | false =>
   rw [hno] at NC
   have HOK : Hid (hdOk h kd el (free && r.isNil) = false) := by
    refine Bool.eq_false_iff.2 (fun e => ?_)
    have := ((hd5 h kd el _ HKN.out).1 e).1
    rw [hno] at this
    cases this
   have HX : Hid (t.form free = false) := by unfold Hid; rw [← HF.out, HFC.out, HOK.out]; rfl
   clear hno
   go_wp2_with fail
   refine (NC.out _ ((Gr.alloc _ _).trans (Gr.alloc _ _))).mono ?_
   rintro e w1 ⟨rfl, hb1⟩
   have G1 : Hid (Gr bx wr w1) := ((Gr.alloc _ _).trans (Gr.alloc _ _)).trans (Gr.below hb1)
   have T1 : Hid (Two wr.heap.size h (.slice an h.names.length cn) (.slice ak kd.len ck) (.slice ae el.len ce) kd el w1) := ⟨(two_new hb1).1, (two_new hb1).2.1⟩
   have L1 : Hid (Lk bx dv m D tw N w1) := HL.out.below ((((Below.refl wr.heap.size wr).alloc (Nat.le_refl _) _).alloc (by simp) _).trans (hb1.mono (by simp; omega)))
   clear hb1 g0 g1 g2 g3 g4 g5 g6 g7 NC
   obtain ⟨p0, p2, p5, p6, p7, q0, q1, q2, q3, q4, fz⟩ := T1.out.cs
   go_upto_region 20 with (fail)
   cases N with
   | false =>
     obtain ⟨lc0, lc1, lc2, lc3, lc4, lfz⟩ := L1.out.cs
     go_region_with (go_at_call 48; refine (DC.out _ ((HG.out.trans G1.out).trans (Gr.drew _))).mono ?_; rintro e w3 ⟨rfl, hb3⟩; have L3 := Lib.hid ((L1.out.below (bdrew _ _)).below hb3); have G3 := Lib.hid ((G1.out.trans (Gr.drew _)).trans (Gr.below (bx := bx) hb3)); have T3 := Lib.hid ((T1.out.gr (Gr.drew (bx := bx) _) HPn.1 HPn.2).gr (Gr.below (bx := bx) hb3) HPn.1 HPn.2); clear hb3 lc0 lc1 lc2 lc3 lc4 lfz; obtain ⟨lc0, lc1, lc2, lc3, lc4, lfz⟩ := L3.out.cs)
     all_goals
      clear lc0 lc1 lc2 lc3 lc4 lfz
      have L4 := Lib.hid (L3.out.set4 (!hasDef ds (bl h.name)))
      have G4 := Lib.hid (G3.out.trans (Gr.set (bx := bx) w3 4 (.bool (!hasDef ds (bl h.name)))))
      have T4 := Lib.hid (T3.out.gr (Gr.set (bx := bx) w3 4 (.bool (!hasDef ds (bl h.name)))) HPn.1 HPn.2)
      clear L3 G3 T3
      generalize World.setCell w3 ⟨bx, 4, none⟩ _ = W4 at *
      obtain ⟨p0, p2, p5, p6, p7, q0, q1, q2, q3, q4, fz⟩ := T4.out.cs
      go_wp2_with fail
      all_goals exact ⟨rfl, (by first | exact HG.out.trans G4.out | exact (HG.out.trans G4.out).set_new (by omega) _ _ | exact ((HG.out.trans G4.out).set_new (by omega) _ _).set_new (by omega) _ _ | exact (((HG.out.trans G4.out).set_new (by omega) _ _).set_new (by omega) _ _).set_new (by omega) _ _ | exact ((((HG.out.trans G4.out).set_new (by omega) _ _).set_new (by omega) _ _).set_new (by omega) _ _).set_new (by omega) _ _), .inr ⟨HX.out, rfl⟩⟩
   | true =>
     obtain ⟨LD, hLD⟩ : ∃ W, w1.drew = W := ⟨_, rfl⟩
     have L3 : Hid (Lk bx dv m D tw true LD) := by rw [← hLD]; exact L1.out.below (bdrew _ _)
     have G3 : Hid (Gr bx wr LD) := by rw [← hLD]; exact G1.out.trans (Gr.drew _)
     have T3 : Hid (Two wr.heap.size h (.slice an h.names.length cn) (.slice ak kd.len ck) (.slice ae el.len ce) kd el LD) := by rw [← hLD]; exact T1.out.gr (Gr.drew (bx := bx) _) HPn.1 HPn.2
     obtain ⟨lc0, lc1, lc2, lc3, lc4, lfz⟩ := L3.out.cs
     go_region
     all_goals
      clear lc0 lc1 lc2 lc3 lc4 lfz
      try rw [hLD]
      clear hLD
      have L4 := Lib.hid (L3.out.set4 (true))
      have G4 := Lib.hid (G3.out.trans (Gr.set (bx := bx) LD 4 (.bool (true))))
      have T4 := Lib.hid (T3.out.gr (Gr.set (bx := bx) LD 4 (.bool (true))) HPn.1 HPn.2)
      clear L3 G3 T3
      generalize World.setCell LD ⟨bx, 4, none⟩ _ = W4 at *
      obtain ⟨p0, p2, p5, p6, p7, q0, q1, q2, q3, q4, fz⟩ := T4.out.cs
      go_wp2_with fail
      all_goals exact ⟨rfl, (by first | exact HG.out.trans G4.out | exact (HG.out.trans G4.out).set_new (by omega) _ _ | exact ((HG.out.trans G4.out).set_new (by omega) _ _).set_new (by omega) _ _ | exact (((HG.out.trans G4.out).set_new (by omega) _ _).set_new (by omega) _ _).set_new (by omega) _ _ | exact ((((HG.out.trans G4.out).set_new (by omega) _ _).set_new (by omega) _ _).set_new (by omega) _ _).set_new (by omega) _ _), .inr ⟨HX.out, rfl⟩⟩
 | true =>
   rw [hno] at NC
   have HNO := Lib.hid hno
   clear hno
   cases hmy : nameOk (bl h.name) with
   | false =>
     rw [hmy] at MC
     have HOK : Hid (hdOk h kd el (free && r.isNil) = false) := by
      refine Bool.eq_false_iff.2 (fun e => ?_)
      have := ((hd5 h kd el _ HKN.out).1 e).2.1
      rw [hmy] at this
      cases this
     have HX : Hid (t.form free = false) := by unfold Hid; rw [← HF.out, HFC.out, HOK.out]; rfl
     clear hmy
     go_wp2_with fail
     refine (NC.out _ ((Gr.alloc _ _).trans (Gr.alloc _ _))).mono ?_
     rintro e w1 ⟨rfl, hb1⟩
     have G1 : Hid (Gr bx wr w1) := ((Gr.alloc _ _).trans (Gr.alloc _ _)).trans (Gr.below hb1)
     have T1 : Hid (Two wr.heap.size h (.slice an h.names.length cn) (.slice ak kd.len ck) (.slice ae el.len ce) kd el w1) := ⟨(two_new hb1).1, (two_new hb1).2.1⟩
     have L1 : Hid (Lk bx dv m D tw N w1) := HL.out.below ((((Below.refl wr.heap.size wr).alloc (Nat.le_refl _) _).alloc (by simp) _).trans (hb1.mono (by simp; omega)))
     clear hb1 g0 g1 g2 g3 g4 g5 g6 g7 NC
     obtain ⟨p0, p2, p5, p6, p7, q0, q1, q2, q3, q4, fz⟩ := T1.out.cs
     go_upto_region 20 with (fail)
     refine (MC.out _).mono ?_
     rintro e w2 ⟨rfl, hb2⟩
     have T2 := Lib.hid (T1.out.gr (Gr.below hb2) HPn.1 HPn.2)
     have L2 := Lib.hid (L1.out.below hb2)
     have G2 := Lib.hid (G1.out.trans (Gr.below (bx := bx) hb2))
     clear hb2 p0 p2 p5 p6 p7 q0 q1 q2 q3 q4 fz MC
     obtain ⟨p0, p2, p5, p6, p7, q0, q1, q2, q3, q4, fz⟩ := T2.out.cs
     go_upto_region 20 with (fail)
     cases N with
     | false =>
       obtain ⟨lc0, lc1, lc2, lc3, lc4, lfz⟩ := L2.out.cs
       go_region_with (go_at_call 48; refine (DC.out _ ((HG.out.trans G2.out).trans (Gr.drew _))).mono ?_; rintro e w3 ⟨rfl, hb3⟩; have L3 := Lib.hid ((L2.out.below (bdrew _ _)).below hb3); have G3 := Lib.hid ((G2.out.trans (Gr.drew _)).trans (Gr.below (bx := bx) hb3)); have T3 := Lib.hid ((T2.out.gr (Gr.drew (bx := bx) _) HPn.1 HPn.2).gr (Gr.below (bx := bx) hb3) HPn.1 HPn.2); clear hb3 lc0 lc1 lc2 lc3 lc4 lfz; obtain ⟨lc0, lc1, lc2, lc3, lc4, lfz⟩ := L3.out.cs)
       all_goals
        clear lc0 lc1 lc2 lc3 lc4 lfz
        have L4 := Lib.hid (L3.out.set4 (!hasDef ds (bl h.name)))
        have G4 := Lib.hid (G3.out.trans (Gr.set (bx := bx) w3 4 (.bool (!hasDef ds (bl h.name)))))
        have T4 := Lib.hid (T3.out.gr (Gr.set (bx := bx) w3 4 (.bool (!hasDef ds (bl h.name)))) HPn.1 HPn.2)
        clear L3 G3 T3
        generalize World.setCell w3 ⟨bx, 4, none⟩ _ = W4 at *
        obtain ⟨p0, p2, p5, p6, p7, q0, q1, q2, q3, q4, fz⟩ := T4.out.cs
        go_wp2_with fail
        all_goals exact ⟨rfl, (by first | exact HG.out.trans G4.out | exact (HG.out.trans G4.out).set_new (by omega) _ _ | exact ((HG.out.trans G4.out).set_new (by omega) _ _).set_new (by omega) _ _ | exact (((HG.out.trans G4.out).set_new (by omega) _ _).set_new (by omega) _ _).set_new (by omega) _ _ | exact ((((HG.out.trans G4.out).set_new (by omega) _ _).set_new (by omega) _ _).set_new (by omega) _ _).set_new (by omega) _ _), .inr ⟨HX.out, rfl⟩⟩
     | true =>
       obtain ⟨LD, hLD⟩ : ∃ W, w2.drew = W := ⟨_, rfl⟩
       have L3 : Hid (Lk bx dv m D tw true LD) := by rw [← hLD]; exact L2.out.below (bdrew _ _)
       have G3 : Hid (Gr bx wr LD) := by rw [← hLD]; exact G2.out.trans (Gr.drew _)
       have T3 : Hid (Two wr.heap.size h (.slice an h.names.length cn) (.slice ak kd.len ck) (.slice ae el.len ce) kd el LD) := by rw [← hLD]; exact T2.out.gr (Gr.drew (bx := bx) _) HPn.1 HPn.2
       obtain ⟨lc0, lc1, lc2, lc3, lc4, lfz⟩ := L3.out.cs
       go_region
       all_goals
        clear lc0 lc1 lc2 lc3 lc4 lfz
        try rw [hLD]
        clear hLD
        have L4 := Lib.hid (L3.out.set4 (true))
        have G4 := Lib.hid (G3.out.trans (Gr.set (bx := bx) LD 4 (.bool (true))))
        have T4 := Lib.hid (T3.out.gr (Gr.set (bx := bx) LD 4 (.bool (true))) HPn.1 HPn.2)
        clear L3 G3 T3
        generalize World.setCell LD ⟨bx, 4, none⟩ _ = W4 at *
        obtain ⟨p0, p2, p5, p6, p7, q0, q1, q2, q3, q4, fz⟩ := T4.out.cs
        go_wp2_with fail
        all_goals exact ⟨rfl, (by first | exact HG.out.trans G4.out | exact (HG.out.trans G4.out).set_new (by omega) _ _ | exact ((HG.out.trans G4.out).set_new (by omega) _ _).set_new (by omega) _ _ | exact (((HG.out.trans G4.out).set_new (by omega) _ _).set_new (by omega) _ _).set_new (by omega) _ _ | exact ((((HG.out.trans G4.out).set_new (by omega) _ _).set_new (by omega) _ _).set_new (by omega) _ _).set_new (by omega) _ _), .inr ⟨HX.out, rfl⟩⟩
   | true =>
     rw [hmy] at MC
     have HMY := Lib.hid hmy
     clear hmy
     go_wp2_with fail
     refine (NC.out _ ((Gr.alloc _ _).trans (Gr.alloc _ _))).mono ?_
     rintro e w1 ⟨rfl, hb1⟩
     have G1 : Hid (Gr bx wr w1) := ((Gr.alloc _ _).trans (Gr.alloc _ _)).trans (Gr.below hb1)
     have T1 : Hid (Two wr.heap.size h (.slice an h.names.length cn) (.slice ak kd.len ck) (.slice ae el.len ce) kd el w1) := ⟨(two_new hb1).1, (two_new hb1).2.1⟩
     have L1 : Hid (Lk bx dv m D tw N w1) := HL.out.below ((((Below.refl wr.heap.size wr).alloc (Nat.le_refl _) _).alloc (by simp) _).trans (hb1.mono (by simp; omega)))
     clear hb1 g0 g1 g2 g3 g4 g5 g6 g7 NC
     obtain ⟨p0, p2, p5, p6, p7, q0, q1, q2, q3, q4, fz⟩ := T1.out.cs
     go_upto_region 20 with (fail)
     refine (MC.out _).mono ?_
     rintro e w2 ⟨rfl, hb2⟩
     have T2 := Lib.hid (T1.out.gr (Gr.below hb2) HPn.1 HPn.2)
     have L2 := Lib.hid (L1.out.below hb2)
     have G2 := Lib.hid (G1.out.trans (Gr.below (bx := bx) hb2))
     clear hb2 p0 p2 p5 p6 p7 q0 q1 q2 q3 q4 fz MC
     obtain ⟨p0, p2, p5, p6, p7, q0, q1, q2, q3, q4, fz⟩ := T2.out.cs
     go_upto_region 20 with (fail)
     cases N with
     | false =>
       obtain ⟨lc0, lc1, lc2, lc3, lc4, lfz⟩ := L2.out.cs
       go_region_with (go_at_call 48; refine (DC.out _ ((HG.out.trans G2.out).trans (Gr.drew _))).mono ?_; rintro e w3 ⟨rfl, hb3⟩; have L3 := Lib.hid ((L2.out.below (bdrew _ _)).below hb3); have G3 := Lib.hid ((G2.out.trans (Gr.drew _)).trans (Gr.below (bx := bx) hb3)); have T3 := Lib.hid ((T2.out.gr (Gr.drew (bx := bx) _) HPn.1 HPn.2).gr (Gr.below (bx := bx) hb3) HPn.1 HPn.2); clear hb3 lc0 lc1 lc2 lc3 lc4 lfz; obtain ⟨lc0, lc1, lc2, lc3, lc4, lfz⟩ := L3.out.cs)
       all_goals
        clear lc0 lc1 lc2 lc3 lc4 lfz
        have L4 := Lib.hid (L3.out.set4 (!hasDef ds (bl h.name)))
        have G4 := Lib.hid (G3.out.trans (Gr.set (bx := bx) w3 4 (.bool (!hasDef ds (bl h.name)))))
        have T4 := Lib.hid (T3.out.gr (Gr.set (bx := bx) w3 4 (.bool (!hasDef ds (bl h.name)))) HPn.1 HPn.2)
        clear L3 G3 T3
        generalize World.setCell w3 ⟨bx, 4, none⟩ _ = W4 at *
        obtain ⟨p0, p2, p5, p6, p7, q0, q1, q2, q3, q4, fz⟩ := T4.out.cs
        go_wp2_with fail
        all_goals first
        | (have HOK : Hid (hdOk h kd el (free && r.isNil) = true) := (hd5 h kd el _ HKN.out).2 ⟨HNO.out, HMY.out, by assumption, by assumption⟩
           have hkl : ((kd.len : Int) + (el.len : Int) = 0) := by assumption
           have hk5 := HKN.out
           obtain ⟨ek, ee⟩ := leaf_kids hkl
           have HF2 : Hid (Pt.form free r = t.form free) := by
            unfold Hid; rw [← HF.out, HFC.out, HOK.out, HKF.out]; simp
           have HD2 : Hid (max D (deep0 + r.deep) = max deep (deep0 + t.deep)) := by
            have := HDH.out
            simp only [Pt.deep] at this
            unfold Hid
            rw [if_neg hk34] at this
            omega
           have HN2 : Hid (((!hasDef ds (bl h.name)) || !r.called ds) = (no || !t.called ds)) := by
            unfold Hid
            rw [← HNN.out, ek, ee]
            simp [Pt.called, hk5]
           have hm2 : m + r.cnt = many + t.cnt + r.len := by have hmm := HMM.out; rw [ek, ee] at hmm; simp only [Pt.cnt] at hmm; omega
           clear HOK
           go_roundw
           case rel => exact ⟨k + 1, m, D, (!hasDef ds (bl h.name)), r, by go_num, (by have := HKI.out; omega), (by unfold Hid; (first | exact L4.out | exact (L4.out).other HPn.2 _ _ | exact ((L4.out).other HPn.2 _ _).other HPn.2 _ _ | exact (((L4.out).other HPn.2 _ _).other HPn.2 _ _).other HPn.2 _ _ | exact ((((L4.out).other HPn.2 _ _).other HPn.2 _ _).other HPn.2 _ _).other HPn.2 _ _)), (by unfold Hid; (first | exact HG.out.trans G4.out | exact (HG.out.trans G4.out).set_new (by omega) _ _ | exact ((HG.out.trans G4.out).set_new (by omega) _ _).set_new (by omega) _ _ | exact (((HG.out.trans G4.out).set_new (by omega) _ _).set_new (by omega) _ _).set_new (by omega) _ _ | exact ((((HG.out.trans G4.out).set_new (by omega) _ _).set_new (by omega) _ _).set_new (by omega) _ _).set_new (by omega) _ _)), HSR, HSK.out.2.2, hm2, by omega, by omega, HD2.out, HN2, HF2⟩
           case measure => simp [intOf]; omega)
        | (have HOK : Hid (hdOk h kd el (free && r.isNil) = false) := by
            refine Bool.eq_false_iff.2 (fun e => ?_)
            obtain ⟨-, -, x0, x1⟩ := (hd5 h kd el _ HKN.out).1 e
            first | exact absurd x0 (by assumption) | exact absurd x1 (by assumption)
           have HX : Hid (t.form free = false) := by unfold Hid; rw [← HF.out, HFC.out, HOK.out]; rfl
           exact ⟨rfl, (by first | exact HG.out.trans G4.out | exact (HG.out.trans G4.out).set_new (by omega) _ _ | exact ((HG.out.trans G4.out).set_new (by omega) _ _).set_new (by omega) _ _ | exact (((HG.out.trans G4.out).set_new (by omega) _ _).set_new (by omega) _ _).set_new (by omega) _ _ | exact ((((HG.out.trans G4.out).set_new (by omega) _ _).set_new (by omega) _ _).set_new (by omega) _ _).set_new (by omega) _ _), .inr ⟨HX.out, rfl⟩⟩)
     | true =>
       obtain ⟨LD, hLD⟩ : ∃ W, w2.drew = W := ⟨_, rfl⟩
       have L3 : Hid (Lk bx dv m D tw true LD) := by rw [← hLD]; exact L2.out.below (bdrew _ _)
       have G3 : Hid (Gr bx wr LD) := by rw [← hLD]; exact G2.out.trans (Gr.drew _)
       have T3 : Hid (Two wr.heap.size h (.slice an h.names.length cn) (.slice ak kd.len ck) (.slice ae el.len ce) kd el LD) := by rw [← hLD]; exact T2.out.gr (Gr.drew (bx := bx) _) HPn.1 HPn.2
       obtain ⟨lc0, lc1, lc2, lc3, lc4, lfz⟩ := L3.out.cs
       go_region
       all_goals
        clear lc0 lc1 lc2 lc3 lc4 lfz
        try rw [hLD]
        clear hLD
        have L4 := Lib.hid (L3.out.set4 (true))
        have G4 := Lib.hid (G3.out.trans (Gr.set (bx := bx) LD 4 (.bool (true))))
        have T4 := Lib.hid (T3.out.gr (Gr.set (bx := bx) LD 4 (.bool (true))) HPn.1 HPn.2)
        clear L3 G3 T3
        generalize World.setCell LD ⟨bx, 4, none⟩ _ = W4 at *
        obtain ⟨p0, p2, p5, p6, p7, q0, q1, q2, q3, q4, fz⟩ := T4.out.cs
        go_wp2_with fail
        all_goals first
        | (have HOK : Hid (hdOk h kd el (free && r.isNil) = true) := (hd5 h kd el _ HKN.out).2 ⟨HNO.out, HMY.out, by assumption, by assumption⟩
           have hkl : ((kd.len : Int) + (el.len : Int) = 0) := by assumption
           have hk5 := HKN.out
           obtain ⟨ek, ee⟩ := leaf_kids hkl
           have HF2 : Hid (Pt.form free r = t.form free) := by
            unfold Hid; rw [← HF.out, HFC.out, HOK.out, HKF.out]; simp
           have HD2 : Hid (max D (deep0 + r.deep) = max deep (deep0 + t.deep)) := by
            have := HDH.out
            simp only [Pt.deep] at this
            unfold Hid
            rw [if_neg hk34] at this
            omega
           have HN2 : Hid (((true) || !r.called ds) = (no || !t.called ds)) := by
            unfold Hid
            rw [← HNN.out, ek, ee]
            simp [Pt.called, hk5]
           have hm2 : m + r.cnt = many + t.cnt + r.len := by have hmm := HMM.out; rw [ek, ee] at hmm; simp only [Pt.cnt] at hmm; omega
           clear HOK
           go_roundw
           case rel => exact ⟨k + 1, m, D, (true), r, by go_num, (by have := HKI.out; omega), (by unfold Hid; (first | exact L4.out | exact (L4.out).other HPn.2 _ _ | exact ((L4.out).other HPn.2 _ _).other HPn.2 _ _ | exact (((L4.out).other HPn.2 _ _).other HPn.2 _ _).other HPn.2 _ _ | exact ((((L4.out).other HPn.2 _ _).other HPn.2 _ _).other HPn.2 _ _).other HPn.2 _ _)), (by unfold Hid; (first | exact HG.out.trans G4.out | exact (HG.out.trans G4.out).set_new (by omega) _ _ | exact ((HG.out.trans G4.out).set_new (by omega) _ _).set_new (by omega) _ _ | exact (((HG.out.trans G4.out).set_new (by omega) _ _).set_new (by omega) _ _).set_new (by omega) _ _ | exact ((((HG.out.trans G4.out).set_new (by omega) _ _).set_new (by omega) _ _).set_new (by omega) _ _).set_new (by omega) _ _)), HSR, HSK.out.2.2, hm2, by omega, by omega, HD2.out, HN2, HF2⟩
           case measure => simp [intOf]; omega)
        | (have HOK : Hid (hdOk h kd el (free && r.isNil) = false) := by
            refine Bool.eq_false_iff.2 (fun e => ?_)
            obtain ⟨-, -, x0, x1⟩ := (hd5 h kd el _ HKN.out).1 e
            first | exact absurd x0 (by assumption) | exact absurd x1 (by assumption)
           have HX : Hid (t.form free = false) := by unfold Hid; rw [← HF.out, HFC.out, HOK.out]; rfl
           exact ⟨rfl, (by first | exact HG.out.trans G4.out | exact (HG.out.trans G4.out).set_new (by omega) _ _ | exact ((HG.out.trans G4.out).set_new (by omega) _ _).set_new (by omega) _ _ | exact (((HG.out.trans G4.out).set_new (by omega) _ _).set_new (by omega) _ _).set_new (by omega) _ _ | exact ((((HG.out.trans G4.out).set_new (by omega) _ _).set_new (by omega) _ _).set_new (by omega) _ _).set_new (by omega) _ _), .inr ⟨HX.out, rfl⟩⟩)
end Go.Proofs.YtepcpgdfbaklfaaGreatDoor
