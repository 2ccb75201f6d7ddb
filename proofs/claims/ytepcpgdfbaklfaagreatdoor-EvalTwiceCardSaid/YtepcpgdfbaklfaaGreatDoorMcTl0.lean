/- The contract of (*tmpl.look).parts. The condition: the sizes that templates of at most 2 to the 24th bytes have; MaxLen holds some number; the tables of unicode/utf8 read as they were laid. -/
import Derived.Test.YtepcpgdfbaklfaaGreatDoorMcLibv
set_option linter.unusedVariables false
namespace Go.Proofs.YtepcpgdfbaklfaaGreatDoor
open Go.RowKit Go.Shelf
attribute [local go_sem ↓] Go.wp_at_zero Go.wp_at_succ
theorem form_cons (free : Bool) (h : Hd) (k e r : Pt) : Pt.form free (.cons h k e r) = (hdOk h k e (free && r.isNil) && (if h.kind = 3 ∨ h.kind = 4 then Pt.form false k && Pt.form false e else true) && Pt.form free r) := rfl
theorem isNil_len (t : Pt) : t.isNil = decide (t.len = 0) := by cases t <;> simp [Pt.isNil, Pt.len]
theorem leaf_kids {k e : Pt} (h : (k.len : Int) + (e.len : Int) = 0) : k = .nil ∧ e = .nil := by
 obtain ⟨h1, h2⟩ := (nl k e).2 h
 exact ⟨(isNil_iff k).1 h1, (isNil_iff e).1 h2⟩
def LkSaid (B bx : Nat) (ds : List Df) (dv : Value) (n : Nat) : Prop := ∀ (t : Pt), t.cnt < n → ∀ (deep0 : Nat) (free : Bool) (v : Value) (many deep : Nat) (tw no : Bool) (w : World),
    t.sm → many + t.cnt ≤ 16777216 → deep0 + t.cnt ≤ 16777216 → deep ≤ 16777216 → Gd w → Defs (· < B) w dv ds →
    Parts (· < B) w v t → Lk bx dv many deep tw no w →
    Calls Tryz.prog 38 #[.pointer (some ⟨bx, 0, none⟩), v, .int .i64 deep0, .bool free] w (LkPost bx dv (many + t.cnt) (max deep (deep0 + t.deep)) tw (no || !t.called ds) (t.form free) w)
def lkCls (k : Nat) : Nat := if k = 1 then 1 else if k = 2 then 2 else if k = 3 ∨ k = 4 then 3 else if k = 5 then 5 else 0
theorem lkCls_mem (k : Nat) : lkCls k ∈ [0, 1, 2, 3, 5] := by unfold lkCls; repeat' split
                                                              all_goals decide
theorem lkCls_k {k q : Nat} (h : lkCls k = q) : (q = 1 → k = 1) ∧ (q = 2 → k = 2) ∧ (q = 3 → k = 3 ∨ k = 4) ∧ (q = 5 → k = 5) ∧ (q = 0 → k ≠ 1 ∧ k ≠ 2 ∧ k ≠ 3 ∧ k ≠ 4 ∧ k ≠ 5) := by
 unfold lkCls at h
 (repeat' split at h) <;> (refine ⟨?_, ?_, ?_, ?_, ?_⟩ <;> intro e <;> omega)
set_option maxRecDepth 100000 in
set_option maxHeartbeats 40000000 in
noncomputable def partsCap (B bx : Nat) (hBx : B ≤ bx) (HGL : Hid (GlB B)) (ds : List Df) (hdl : ds.length ≤ 16777216) (dv : Value) (n : Nat) (IH : Hid (LkSaid B bx ds dv n)) (t : Pt) (hn : t.cnt < n + 1) (deep0 : Nat) (free : Bool) (c many deep : Nat) (tw no : Bool) (w : World)
 (HSM : Hid t.sm) (hm : many + t.cnt ≤ 16777216) (hd : deep0 + t.cnt ≤ 16777216) (hdp : deep ≤ 16777216) (HGD : Hid (Gd w)) (HDF : Hid (Defs (· < B) w dv ds)) (h1 : t.len ≤ c) (h2 : c ≤ maxLen) (HLK : Hid (Lk bx dv many deep tw no w)) (b o : Nat) (hlc : t.len ≤ t.cnt) (hdc : t.deep ≤ t.cnt) :
 PSigma fun P : Nat → Prop => ∀ (a : Option Addr) (HR : Hid (t ≠ .nil → a = some ⟨b, o, none⟩ ∧ b < B ∧ Row (· < B) w t b o)), (∀ u, u ∈ [0, 1, 2, 3, 5] → P u) → Calls Tryz.prog 38 #[.pointer (some ⟨bx, 0, none⟩), .slice a t.len c, .int .i64 deep0, .bool free] w (LkPost bx dv (many + t.cnt) (max deep (deep0 + t.deep)) tw (no || !t.called ds) (t.form free) w) := by
 refine ⟨?P, fun a HR CAP => ?main⟩
 case main =>
  have hbxw := HLK.out.lt
  obtain ⟨c0, c1, c2, c3, c4, fz⟩ := HLK.out.cs
  go_enter Tryz.func38, Tryz.ntmps38
  go_wp2_with fail
  have HL1 := Lib.hid ((HLK.out.set1 ((many : Int) + t.len)).set2 (max (deep : Int) deep0))
  have HG1 : Hid (Gr bx w ((w.setCell ⟨bx, 1, none⟩ (.int .i64 ((many : Int) + t.len))).setCell ⟨bx, 2, none⟩ (.int .i64 (max (deep : Int) deep0)))) := (Gr.set _ _ _).trans (Gr.set _ _ _)
  generalize hW1 : World.setCell _ _ _ = W1 at *
  clear hW1 c0 c1 c2 c3 c4 fz
  go_loopw [32] (fun i wr => ∃ (k m D : Nat) (N : Bool) (t' : Pt), i = .int .i64 k ∧ k + t'.len = t.len ∧ Hid (Lk bx dv m D tw N wr) ∧ Hid (Gr bx w wr) ∧ Hid (t' ≠ .nil → a = some ⟨b, o, none⟩ ∧ b < B ∧ Row (· < B) w t' b (o + k * 8)) ∧
   Hid t'.sm ∧ m + t'.cnt = many + t.cnt + t'.len ∧ t'.cnt ≤ t.cnt ∧ deep0 ≤ D ∧ max D (deep0 + t'.deep) = max deep (deep0 + t.deep) ∧ Hid ((N || !t'.called ds) = (no || !t.called ds)) ∧ Hid (t'.form free = t.form free)) (fun i _ => t.len - (intOf i).toNat)
  case atStart =>
   refine ⟨0, many + t.len, max deep deep0, no, t, rfl, by omega, ?_, HG1, HR, HSM, by omega, Nat.le_refl _, by omega, by omega, rfl, rfl⟩
   have := HL1.out
   unfold Hid
   rw [show ((many + t.len : Nat) : Int) = (many : Int) + t.len by omega, show ((max deep deep0 : Nat) : Int) = max (deep : Int) deep0 by omega]
   exact this
  case round =>
   obtain ⟨k, m, D, N, t', rfl, hk, HL, HG, HRW, HS, hmm, hcn, hD, HDD, HNN, HF⟩ := hrel
   have HDH := Lib.hid HDD
   clear HDD HL1 HG1
   cases t' with
   | nil =>
     simp only [Pt.len] at hk hmm
     simp only [Pt.cnt] at hmm
     have hge : ¬ (k : Int) < (t.len : Int) := by omega
     have HE : Hid (m = many + t.cnt ∧ D = max deep (deep0 + t.deep) ∧ N = (no || !t.called ds) ∧ t.form free = true) := by
      refine ⟨by omega, ?_, ?_, HF.out.symm⟩
      · have := HDH.out; simp only [Pt.deep] at this; omega
      · have := HNN.out; simpa [Pt.called] using this
     go_wp2_with fail
     go_end0
     obtain ⟨e1, e2, e3, e4⟩ := HE.out
     have q1 := HL.out
     have q2 := HG.out
     rw [e1, e2, e3] at q1
     exact ⟨q2, .inl ⟨e4, rfl, q1⟩⟩
   | cons h kd el r =>
     obtain ⟨rfl, hbB, hrow⟩ := HRW.out (by simp)
     have hbxr := Nat.lt_of_lt_of_le hbxw HG.out.size
     have hrow' := Row.kept (HG.out.keptB hBx hbxw) _ _ _ hbB hrow
     obtain ⟨⟨g0, g1, g2, g3, ⟨vn, g4, hstr⟩, g5⟩, ⟨ak, ck, g6, k1, k2, k3⟩, ⟨ae, ce, g7, e1, e2, e3⟩, -⟩ := hrow'
     have HRR := Lib.hid hrow.2.2.2
     simp only [Pt.len] at hk hmm
     simp only [Pt.cnt] at hmm hcn
     have hrc := len_le_cnt r
     have hdr := deep_le_cnt r
     have hdk := deep_le_cnt kd
     have hde := deep_le_cnt el
     have hkc := len_le_cnt kd
     have hec := len_le_cnt el
     have hkt : (k : Int) < (t.len : Int) := by omega
     have hkb1 : (kd.len : Int) ≤ 16777216 := by omega
     have hkb2 : (el.len : Int) ≤ 16777216 := by omega
     have hkb3 : (0 : Int) ≤ (kd.len : Int) := by omega
     have hkb4 : (0 : Int) ≤ (el.len : Int) := by omega
     obtain ⟨hsmh, hsmk, hsme, hsmr⟩ := HS.out
     obtain ⟨s0, s1, s2, s3, s4⟩ := hsmh
     have PK : Hid (Parts (· < B) wr (.slice ak kd.len ck) kd) := ⟨ak, ck, rfl, k1, k2, k3⟩
     have PE : Hid (Parts (· < B) wr (.slice ae el.len ce) el) := ⟨ae, ce, rfl, e1, e2, e3⟩
     have NC : Hid (∀ W, Gr bx wr W → Calls Tryz.prog 63 #[vn] W fun e w' => e = .returned (.bool (namesOk (bls h.names))) ∧ Below W.heap.size W w') := fun W hW =>
      named_calls (· < B) h.names (by omega) (fun s hs => by have := s4 s hs; omega) vn W (hstr.kept (hW.keptB hBx hbxr)) (fun b hb => by have := hW.size; have hb' : b < B := hb; omega)
     have HSK : Hid (kd.sm ∧ el.sm ∧ r.sm) := ⟨hsmk, hsme, hsmr⟩
     have HSR : Hid (r ≠ .nil → some (⟨b, o, none⟩ : Addr) = some ⟨b, o, none⟩ ∧ b < B ∧ Row (· < B) w r b (o + (k + 1) * 8)) := fun _ => ⟨rfl, hbB, by have := HRR.out; rwa [show o + k * 8 + 8 = o + (k + 1) * 8 by omega] at this⟩
     have HPn : wr.heap.size ≠ bx ∧ wr.heap.size + 1 ≠ bx := ⟨by omega, by omega⟩
     obtain ⟨an, cn, rfl, n1, n2, -⟩ := hstr
     have GW : Hid (∀ W, Gr bx w W → Gd W) := fun W hW => HGD.out.belowB HGL.out (hW.to_below (by omega) hBx)
     have DW : Hid (∀ W, Gr bx w W → Defs (· < B) W dv ds) := fun W hW => HDF.out.kept (hW.keptB hBx hbxw)
     have HFC := Lib.hid (form_cons free h kd el r)
     have hgs := HG.out.size
     have HKI := Lib.hid hk
     have HMM := Lib.hid hmm
     have hki : k + 1 + r.len ≤ t.len := by omega
     have hmi : m + kd.cnt + el.cnt + r.cnt ≤ many + t.cnt + r.len := by omega
     clear hrow k3 e3 hsmk hsme hsmr s4 hk hmm
     clear W1 HS HRW HR
     obtain ⟨u, hu⟩ : ∃ u : Nat, lkCls h.kind = u := ⟨_, rfl⟩
     have HC := CAP u (hu ▸ lkCls_mem _)
     clear CAP
     revert wr u8 u9 u10 u11 u33 u34 u35 u36 u37 u38 u39 u40 u41 u42 u43 u44 u45 u46 u47 u48 u49 u50 u51 u52 u53 u54 u55 u56 u57 u58 u59 u60 u61 u62 u63 u64 u65 u66 u67 u68 u69 u70 u71 u72 u73 u74 u75 u76 u77 u78 u79 u80 u81 u82 u83 u84 u85 u86 u87 u88 u89 u90 u91 u92 u93 u94 u95 u96 u97 u98 u99 u100 u101 u102 u103 u104 u105 u106 u107 u108 u109 u110 u111 u112 u113 u114 u115 u116 u117 u118 u119 u120 u121 u122 u123 u124 u125 u126 u127 u128 u129 u130 u131 u132 u133 u134 u135 k m D N HL HG hD h kd el r HNN HF HDH hbB hbxr ak ck k1 k2 ae ce e1 e2 HRR hrc hdr hdk hde hkc hec hkt hkb1 hkb2 hkb3 hkb4 s0 s1 s2 s3 PK PE HSK HPn an cn n1 n2 NC GW DW HFC hgs HKI HMM hki hmi hcn g0 g1 g2 g3 g4 g5 g6 g7 HSR hu
     exact HC
set_option maxRecDepth 100000 in
set_option maxHeartbeats 40000000 in
theorem parts_k1 (B bx : Nat) (hBx : B ≤ bx) (HGL : Hid (GlB B)) (ds : List Df) (hdl : ds.length ≤ 16777216) (dv : Value) (n : Nat) (IH : Hid (LkSaid B bx ds dv n)) (t : Pt) (hn : t.cnt < n + 1) (deep0 : Nat) (free : Bool) (c many deep : Nat) (tw no : Bool) (w : World)
 (HSM : Hid t.sm) (hm : many + t.cnt ≤ 16777216) (hd : deep0 + t.cnt ≤ 16777216) (hdp : deep ≤ 16777216) (HGD : Hid (Gd w)) (HDF : Hid (Defs (· < B) w dv ds)) (h1 : t.len ≤ c) (h2 : c ≤ maxLen) (HLK : Hid (Lk bx dv many deep tw no w)) (b o : Nat)
 (hlc : t.len ≤ t.cnt) (hdc : t.deep ≤ t.cnt) : (partsCap B bx hBx HGL ds hdl dv n IH t hn deep0 free c many deep tw no w HSM hm hd hdp HGD HDF h1 h2 HLK b o hlc hdc).1 1 := by
 unfold partsCap
 intro wr u8 u9 u10 u11 u33 u34 u35 u36 u37 u38 u39 u40 u41 u42 u43 u44 u45 u46 u47 u48 u49 u50 u51 u52 u53 u54 u55 u56 u57 u58 u59 u60 u61 u62 u63 u64 u65 u66 u67 u68 u69 u70 u71 u72 u73 u74 u75 u76 u77 u78 u79 u80 u81 u82 u83 u84 u85 u86 u87 u88 u89 u90 u91 u92 u93 u94 u95 u96 u97 u98 u99 u100 u101 u102 u103 u104 u105 u106 u107 u108 u109 u110 u111 u112 u113 u114 u115 u116 u117 u118 u119 u120 u121 u122 u123 u124 u125 u126 u127 u128 u129 u130 u131 u132 u133 u134 u135 k m D N HL HG hD h kd el r hcn HNN HF HDH hbB hbxr g0 g1 g2 g3 g5 ak ck g6 k1 k2 ae ce g7 e1 e2 HRR hrc hdr hdk hde hkc hec hkt hkb1 hkb2 hkb3 hkb4 s0 s1 s2 s3 PK PE HSK HSR HPn an cn g4 NC n1 n2 GW DW HFC hgs HKI HMM hki hmi hu
 have hbxw := HLK.out.lt
 have hkn : h.kind = 1 := (lkCls_k hu).1 rfl
 have f1 : ((h.kind : Int) == 1) = true := by rw [hkn]; rfl
 have HKN := Lib.hid hkn
 have HKF : Hid ((if h.kind = 3 ∨ h.kind = 4 then Pt.form false kd && Pt.form false el else true) = true) := if_neg (by omega)
 have hk5 : h.kind ≠ 5 := by omega
 have hk34 : ¬ (h.kind = 3 ∨ h.kind = 4) := by omega
 clear hkn hu
 obtain ⟨q, hq⟩ : ∃ q : Int, (t.len : Int) + -1 = q := ⟨_, rfl⟩
 have hlt : t.len ≤ 16777216 := by omega
 have wl : IntKind.i64.wrap ((t.len : Int) + -1) = q := by rw [IntWalk.i64_in _ (by omega)]; exact hq
 have wl2 : IntKind.i64.wrap ((t.len : Int) - 1) = q := by rw [IntWalk.i64_in _ (by omega)]; omega
 have fq : ((k : Int) == q) = r.isNil := by
  rw [isNil_len]
  have := HKI.out
  by_cases hr : r.len = 0
  · rw [decide_eq_true hr]; exact beq_iff_eq.2 (by omega)
  · rw [decide_eq_false hr]; exact beq_eq_false_iff_ne.2 (by omega)
 clear hq
 cases free with
 | false =>
   have MC : Hid (∀ W, Gd W → Calls Tryz.prog 64 #[.string h.text, .bool false] W fun e w' => e = .returned (.bool (mayB (bl h.text) (false && r.isNil))) ∧ Below W.heap.size W w') := fun W hW => may_calls h.text (false && r.isNil) s1 W hW
   cases hmy : mayB (bl h.text) (false && r.isNil) with
   | false =>
     rw [hmy] at MC
     have HOK : Hid (hdOk h kd el (false && r.isNil) = false) := by
      refine Bool.eq_false_iff.2 (fun e => ?_)
      have := ((hd1 h kd el _ HKN.out).1 e).1
      rw [hmy] at this
      cases this
     have HX : Hid (t.form false = false) := by unfold Hid; rw [← HF.out, HFC.out, HOK.out]; rfl
     clear hmy
     go_wp2_with fail
     refine (NC.out _ ((Gr.alloc _ _).trans (Gr.alloc _ _))).mono ?_
     rintro e w1 ⟨rfl, hb1⟩
     have G1 : Hid (Gr bx wr w1) := ((Gr.alloc _ _).trans (Gr.alloc _ _)).trans (Gr.below hb1)
     have T1 : Hid (Two wr.heap.size h (.slice an h.names.length cn) (.slice ak kd.len ck) (.slice ae el.len ce) kd el w1) := ⟨(two_new hb1).1, (two_new hb1).2.1⟩
     have L1 : Hid (Lk bx dv m D tw N w1) := HL.out.below ((((Below.refl wr.heap.size wr).alloc (Nat.le_refl _) _).alloc (by simp) _).trans (hb1.mono (by simp; omega)))
     clear hb1 g0 g1 g2 g3 g4 g5 g6 g7 NC
     obtain ⟨p0, p2, p5, p6, p7, q0, q1, q2, q3, q4, fz⟩ := T1.out.cs
     go_wp2_with fail
     refine (MC.out _ (GW.out _ (HG.out.trans G1.out))).mono ?_
     rintro e w2 ⟨rfl, hb2⟩
     have T2 := Lib.hid (T1.out.gr (Gr.below hb2) HPn.1 HPn.2)
     have L2 := Lib.hid (L1.out.below hb2)
     have G2 := Lib.hid (G1.out.trans (Gr.below (bx := bx) hb2))
     clear hb2 p0 p2 p5 p6 p7 q0 q1 q2 q3 q4 fz MC
     obtain ⟨p0, p2, p5, p6, p7, q0, q1, q2, q3, q4, fz⟩ := T2.out.cs
     go_wp2_with fail
     all_goals exact ⟨rfl, (by first | exact HG.out.trans G2.out | exact (HG.out.trans G2.out).set_new (by omega) _ _ | exact ((HG.out.trans G2.out).set_new (by omega) _ _).set_new (by omega) _ _ | exact (((HG.out.trans G2.out).set_new (by omega) _ _).set_new (by omega) _ _).set_new (by omega) _ _ | exact ((((HG.out.trans G2.out).set_new (by omega) _ _).set_new (by omega) _ _).set_new (by omega) _ _).set_new (by omega) _ _), .inr ⟨HX.out, rfl⟩⟩
   | true =>
     rw [hmy] at MC
     have HMY := Lib.hid hmy
     clear hmy
     go_wp2_with fail
     refine (NC.out _ ((Gr.alloc _ _).trans (Gr.alloc _ _))).mono ?_
     rintro e w1 ⟨rfl, hb1⟩
     have G1 : Hid (Gr bx wr w1) := ((Gr.alloc _ _).trans (Gr.alloc _ _)).trans (Gr.below hb1)
     have T1 : Hid (Two wr.heap.size h (.slice an h.names.length cn) (.slice ak kd.len ck) (.slice ae el.len ce) kd el w1) := ⟨(two_new hb1).1, (two_new hb1).2.1⟩
     have L1 : Hid (Lk bx dv m D tw N w1) := HL.out.below ((((Below.refl wr.heap.size wr).alloc (Nat.le_refl _) _).alloc (by simp) _).trans (hb1.mono (by simp; omega)))
     clear hb1 g0 g1 g2 g3 g4 g5 g6 g7 NC
     obtain ⟨p0, p2, p5, p6, p7, q0, q1, q2, q3, q4, fz⟩ := T1.out.cs
     go_wp2_with fail
     refine (MC.out _ (GW.out _ (HG.out.trans G1.out))).mono ?_
     rintro e w2 ⟨rfl, hb2⟩
     have T2 := Lib.hid (T1.out.gr (Gr.below hb2) HPn.1 HPn.2)
     have L2 := Lib.hid (L1.out.below hb2)
     have G2 := Lib.hid (G1.out.trans (Gr.below (bx := bx) hb2))
     clear hb2 p0 p2 p5 p6 p7 q0 q1 q2 q3 q4 fz MC
     obtain ⟨p0, p2, p5, p6, p7, q0, q1, q2, q3, q4, fz⟩ := T2.out.cs
     go_wp2_with fail
     all_goals first
     | (have HOK : Hid (hdOk h kd el (false && r.isNil) = true) := (hd1 h kd el _ HKN.out).2 ⟨HMY.out, by assumption, (by first | assumption | (simp; assumption) | exact Bool.eq_false_iff.2 (by assumption)), (by first | assumption | (simp; assumption)), by assumption⟩
        have hkl : ((kd.len : Int) + (el.len : Int) = 0) := by assumption
        obtain ⟨ek, ee⟩ := leaf_kids hkl
        have HF2 : Hid (Pt.form false r = t.form false) := by
         unfold Hid; rw [← HF.out, HFC.out, HOK.out, HKF.out]; simp
        have HD2 : Hid (max D (deep0 + r.deep) = max deep (deep0 + t.deep)) := by
         have := HDH.out
         simp only [Pt.deep] at this
         unfold Hid
         rw [if_neg hk34] at this
         omega
        have HN2 : Hid ((N || !r.called ds) = (no || !t.called ds)) := by
         unfold Hid
         rw [← HNN.out, ek, ee]
         simp [Pt.called, hk5]
        have hm2 : m + r.cnt = many + t.cnt + r.len := by have hmm := HMM.out; rw [ek, ee] at hmm; simp only [Pt.cnt] at hmm; omega
        clear HOK
        go_roundw
        case rel => exact ⟨k + 1, m, D, N, r, by go_num, (by have := HKI.out; omega), (by unfold Hid; (first | exact L2.out | exact (L2.out).other HPn.2 _ _ | exact ((L2.out).other HPn.2 _ _).other HPn.2 _ _ | exact (((L2.out).other HPn.2 _ _).other HPn.2 _ _).other HPn.2 _ _ | exact ((((L2.out).other HPn.2 _ _).other HPn.2 _ _).other HPn.2 _ _).other HPn.2 _ _)), (by unfold Hid; (first | exact HG.out.trans G2.out | exact (HG.out.trans G2.out).set_new (by omega) _ _ | exact ((HG.out.trans G2.out).set_new (by omega) _ _).set_new (by omega) _ _ | exact (((HG.out.trans G2.out).set_new (by omega) _ _).set_new (by omega) _ _).set_new (by omega) _ _ | exact ((((HG.out.trans G2.out).set_new (by omega) _ _).set_new (by omega) _ _).set_new (by omega) _ _).set_new (by omega) _ _)), HSR, HSK.out.2.2, hm2, by omega, by omega, HD2.out, HN2, HF2⟩
        case measure => simp [intOf]; omega)
     | (have HOK : Hid (hdOk h kd el (false && r.isNil) = false) := by
         refine Bool.eq_false_iff.2 (fun e => ?_)
         obtain ⟨-, x0, x1, x2, x3⟩ := (hd1 h kd el _ HKN.out).1 e
         first | exact absurd x0 (by assumption) | exact absurd x1 (by first | assumption | (simp; assumption)) | exact absurd x2 (by first | assumption | (simp; assumption)) | exact absurd x3 (by assumption)
        have HX : Hid (t.form false = false) := by unfold Hid; rw [← HF.out, HFC.out, HOK.out]; rfl
        exact ⟨rfl, (by first | exact HG.out.trans G2.out | exact (HG.out.trans G2.out).set_new (by omega) _ _ | exact ((HG.out.trans G2.out).set_new (by omega) _ _).set_new (by omega) _ _ | exact (((HG.out.trans G2.out).set_new (by omega) _ _).set_new (by omega) _ _).set_new (by omega) _ _ | exact ((((HG.out.trans G2.out).set_new (by omega) _ _).set_new (by omega) _ _).set_new (by omega) _ _).set_new (by omega) _ _), .inr ⟨HX.out, rfl⟩⟩)
 | true =>
   have MC : Hid (∀ W, Gd W → Calls Tryz.prog 64 #[.string h.text, .bool r.isNil] W fun e w' => e = .returned (.bool (mayB (bl h.text) (true && r.isNil))) ∧ Below W.heap.size W w') := fun W hW => may_calls h.text (true && r.isNil) s1 W hW
   cases hmy : mayB (bl h.text) (true && r.isNil) with
   | false =>
     rw [hmy] at MC
     have HOK : Hid (hdOk h kd el (true && r.isNil) = false) := by
      refine Bool.eq_false_iff.2 (fun e => ?_)
      have := ((hd1 h kd el _ HKN.out).1 e).1
      rw [hmy] at this
      cases this
     have HX : Hid (t.form true = false) := by unfold Hid; rw [← HF.out, HFC.out, HOK.out]; rfl
     clear hmy
     go_wp2_with fail
     refine (NC.out _ ((Gr.alloc _ _).trans (Gr.alloc _ _))).mono ?_
     rintro e w1 ⟨rfl, hb1⟩
     have G1 : Hid (Gr bx wr w1) := ((Gr.alloc _ _).trans (Gr.alloc _ _)).trans (Gr.below hb1)
     have T1 : Hid (Two wr.heap.size h (.slice an h.names.length cn) (.slice ak kd.len ck) (.slice ae el.len ce) kd el w1) := ⟨(two_new hb1).1, (two_new hb1).2.1⟩
     have L1 : Hid (Lk bx dv m D tw N w1) := HL.out.below ((((Below.refl wr.heap.size wr).alloc (Nat.le_refl _) _).alloc (by simp) _).trans (hb1.mono (by simp; omega)))
     clear hb1 g0 g1 g2 g3 g4 g5 g6 g7 NC
     obtain ⟨p0, p2, p5, p6, p7, q0, q1, q2, q3, q4, fz⟩ := T1.out.cs
     go_wp2_with fail
     refine (MC.out _ (GW.out _ (HG.out.trans G1.out))).mono ?_
     rintro e w2 ⟨rfl, hb2⟩
     have T2 := Lib.hid (T1.out.gr (Gr.below hb2) HPn.1 HPn.2)
     have L2 := Lib.hid (L1.out.below hb2)
     have G2 := Lib.hid (G1.out.trans (Gr.below (bx := bx) hb2))
     clear hb2 p0 p2 p5 p6 p7 q0 q1 q2 q3 q4 fz MC
     obtain ⟨p0, p2, p5, p6, p7, q0, q1, q2, q3, q4, fz⟩ := T2.out.cs
     go_wp2_with fail
     all_goals exact ⟨rfl, (by first | exact HG.out.trans G2.out | exact (HG.out.trans G2.out).set_new (by omega) _ _ | exact ((HG.out.trans G2.out).set_new (by omega) _ _).set_new (by omega) _ _ | exact (((HG.out.trans G2.out).set_new (by omega) _ _).set_new (by omega) _ _).set_new (by omega) _ _ | exact ((((HG.out.trans G2.out).set_new (by omega) _ _).set_new (by omega) _ _).set_new (by omega) _ _).set_new (by omega) _ _), .inr ⟨HX.out, rfl⟩⟩
   | true =>
     rw [hmy] at MC
     have HMY := Lib.hid hmy
     clear hmy
     go_wp2_with fail
     refine (NC.out _ ((Gr.alloc _ _).trans (Gr.alloc _ _))).mono ?_
     rintro e w1 ⟨rfl, hb1⟩
     have G1 : Hid (Gr bx wr w1) := ((Gr.alloc _ _).trans (Gr.alloc _ _)).trans (Gr.below hb1)
     have T1 : Hid (Two wr.heap.size h (.slice an h.names.length cn) (.slice ak kd.len ck) (.slice ae el.len ce) kd el w1) := ⟨(two_new hb1).1, (two_new hb1).2.1⟩
     have L1 : Hid (Lk bx dv m D tw N w1) := HL.out.below ((((Below.refl wr.heap.size wr).alloc (Nat.le_refl _) _).alloc (by simp) _).trans (hb1.mono (by simp; omega)))
     clear hb1 g0 g1 g2 g3 g4 g5 g6 g7 NC
     obtain ⟨p0, p2, p5, p6, p7, q0, q1, q2, q3, q4, fz⟩ := T1.out.cs
     go_wp2_with fail
     refine (MC.out _ (GW.out _ (HG.out.trans G1.out))).mono ?_
     rintro e w2 ⟨rfl, hb2⟩
     have T2 := Lib.hid (T1.out.gr (Gr.below hb2) HPn.1 HPn.2)
     have L2 := Lib.hid (L1.out.below hb2)
     have G2 := Lib.hid (G1.out.trans (Gr.below (bx := bx) hb2))
     clear hb2 p0 p2 p5 p6 p7 q0 q1 q2 q3 q4 fz MC
     obtain ⟨p0, p2, p5, p6, p7, q0, q1, q2, q3, q4, fz⟩ := T2.out.cs
     go_wp2_with fail
     all_goals first
     | (have HOK : Hid (hdOk h kd el (true && r.isNil) = true) := (hd1 h kd el _ HKN.out).2 ⟨HMY.out, by assumption, (by first | assumption | (simp; assumption) | exact Bool.eq_false_iff.2 (by assumption)), (by first | assumption | (simp; assumption)), by assumption⟩
        have hkl : ((kd.len : Int) + (el.len : Int) = 0) := by assumption
        obtain ⟨ek, ee⟩ := leaf_kids hkl
        have HF2 : Hid (Pt.form true r = t.form true) := by
         unfold Hid; rw [← HF.out, HFC.out, HOK.out, HKF.out]; simp
        have HD2 : Hid (max D (deep0 + r.deep) = max deep (deep0 + t.deep)) := by
         have := HDH.out
         simp only [Pt.deep] at this
         unfold Hid
         rw [if_neg hk34] at this
         omega
        have HN2 : Hid ((N || !r.called ds) = (no || !t.called ds)) := by
         unfold Hid
         rw [← HNN.out, ek, ee]
         simp [Pt.called, hk5]
        have hm2 : m + r.cnt = many + t.cnt + r.len := by have hmm := HMM.out; rw [ek, ee] at hmm; simp only [Pt.cnt] at hmm; omega
        clear HOK
        go_roundw
        case rel => exact ⟨k + 1, m, D, N, r, by go_num, (by have := HKI.out; omega), (by unfold Hid; (first | exact L2.out | exact (L2.out).other HPn.2 _ _ | exact ((L2.out).other HPn.2 _ _).other HPn.2 _ _ | exact (((L2.out).other HPn.2 _ _).other HPn.2 _ _).other HPn.2 _ _ | exact ((((L2.out).other HPn.2 _ _).other HPn.2 _ _).other HPn.2 _ _).other HPn.2 _ _)), (by unfold Hid; (first | exact HG.out.trans G2.out | exact (HG.out.trans G2.out).set_new (by omega) _ _ | exact ((HG.out.trans G2.out).set_new (by omega) _ _).set_new (by omega) _ _ | exact (((HG.out.trans G2.out).set_new (by omega) _ _).set_new (by omega) _ _).set_new (by omega) _ _ | exact ((((HG.out.trans G2.out).set_new (by omega) _ _).set_new (by omega) _ _).set_new (by omega) _ _).set_new (by omega) _ _)), HSR, HSK.out.2.2, hm2, by omega, by omega, HD2.out, HN2, HF2⟩
        case measure => simp [intOf]; omega)
     | (have HOK : Hid (hdOk h kd el (true && r.isNil) = false) := by
         refine Bool.eq_false_iff.2 (fun e => ?_)
         obtain ⟨-, x0, x1, x2, x3⟩ := (hd1 h kd el _ HKN.out).1 e
         first | exact absurd x0 (by assumption) | exact absurd x1 (by first | assumption | (simp; assumption)) | exact absurd x2 (by first | assumption | (simp; assumption)) | exact absurd x3 (by assumption)
        have HX : Hid (t.form true = false) := by unfold Hid; rw [← HF.out, HFC.out, HOK.out]; rfl
        exact ⟨rfl, (by first | exact HG.out.trans G2.out | exact (HG.out.trans G2.out).set_new (by omega) _ _ | exact ((HG.out.trans G2.out).set_new (by omega) _ _).set_new (by omega) _ _ | exact (((HG.out.trans G2.out).set_new (by omega) _ _).set_new (by omega) _ _).set_new (by omega) _ _ | exact ((((HG.out.trans G2.out).set_new (by omega) _ _).set_new (by omega) _ _).set_new (by omega) _ _).set_new (by omega) _ _), .inr ⟨HX.out, rfl⟩⟩)
end Go.Proofs.YtepcpgdfbaklfaaGreatDoor
