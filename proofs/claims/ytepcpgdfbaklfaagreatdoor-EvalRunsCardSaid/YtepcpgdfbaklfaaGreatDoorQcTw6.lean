/- tmpl.write at a part: if, range. The condition: as XTw1's. -/
import Derived.Test.YtepcpgdfbaklfaaGreatDoorQcTbd
import Derived.Test.YtepcpgdfbaklfaaGreatDoorQcTw2
set_option maxRecDepth 100000
set_option maxHeartbeats 40000000
set_option linter.unusedSimpArgs false
set_option linter.unusedVariables false
namespace Go.Proofs.YtepcpgdfbaklfaaGreatDoor
open Go.RowKit Go.Shelf
attribute [local go_sem ↓] Go.wp_at_zero Go.wp_at_succ
theorem uj (n:Nat)(IH:Hid (jD n))(t:Pt)(hn:t.cnt<n+1)(B bo:Nat)(l:By)(c:Nat)(w:World)(aR:Hid t.sm)(aN:t.cnt<=16777216)(aO:Hid (l.length+(t.src false).length<=16777216))(h1:t.len<=c)(h2:c<=maxLen)(aQ:B<=bo/\bo<w.heap.size)
 (aT:Hid (Bdf B bo l w)) (HB:Hid (B<=w.heap.size)) (b o:Nat) (aP:t.len<=t.cnt):(fJ n IH t hn B bo l c w aR aN aO h1 h2 aQ aT HB b o aP).1 3:=by
 unfold fJ
 intro aU W1 cB HQ wr u5 u6 u7 cr cq cp co cm cj ci ch cg cd cc cb ca b8 b7 b6 b5 b4 b3 b2 b1 b0 bZ bY bX bW bU bT bS bR bQ bP bO bN bM bL bK bJ bI bH bG bF bE bD bC bB bA bz bw bv bu bt bs br bq bp bn bm bk bj bi bh bg bf be bd bc ba a8 a7 a6 aZ aY aX aW aV k U af cC aB h Z M r cw HE cz cA g0 g1 g2 g3 g5 ak ck g6 k1 k2 ae ce g7 e1 e2 cu ao s0 cy ct ab ad O KC EC AC N aD cv cE cD ag an cn g4 PC aC m aE n1 n2 hu
 have aa:h.kind=3\/h.kind=4:=(nT hu).2.2.1 rfl
 rcases aa with aa | aa
 · skip
   have f1:((h.kind:Int)==1)=false:=beq_eq_false_iff_ne.2 (by omega)
   have f2:((h.kind:Int)==2)=false:=beq_eq_false_iff_ne.2 (by omega)
   have f3:((h.kind:Int)==3)=true:=by rw[aa];rfl
   have f4:((h.kind:Int)==4)=false:=beq_eq_false_iff_ne.2 (by omega)
   have f5:((h.kind:Int)==5)=false:=beq_eq_false_iff_ne.2 (by omega)
   have A:Hid (eO h Z M af=bra++(kIf++32::AJ h.root (bls h.names))++ket++Pt.src false Z++(if M.isNil then[]else eI++Pt.src false M)++gx):=by
    unfold Hid eO;rw[if_neg (by omega),if_neg (by omega),if_neg (by omega),if_pos (by omega)]
    congr 7
    rw[if_neg (by omega)]
   have aS:=AF aa
   have ap:(AJ h.root (bls h.names)).length<=16777216:=by have:=O.out;rw[A.out]at this;simp at this;omega
   clear aa hu
   unfold eo at aC m aE
   have P1:=AF (PC.out _ m.out ap)
   go_wp2_with fail
   generalize aG:World.alloc wr _=W0 at*
   clear aG
   have aH:B<=W0.heap.size:=Nat.le_trans ab m.out.size
   have K:=aC
   refine P1.out.mono ?_
   rintro e w1 ⟨rfl,ah⟩
   have J:=AF (Wr.below (b:=bo) ah aH)
   have aL:=AF (aE.out.below ah)
   clear ah P1
   obtain⟨p0,p2,p3,p4,p5,p6,p7⟩:=K.out _ J.out
   have R:=N.out _ (m.out.trans J.out)
   have A1:Hid (Calls Tryz.prog 110 #[.slice (some ⟨(w1).heap.size,0,none⟩) 2 2,.pointer (some ⟨w.heap.size,0,none⟩)] ((w1).alloc (.cells #[.string ⟨#[105,102]⟩,.string (mkB (AJ h.root (bls h.names)))] 9)) λe w'=>e=.returned (.tuple #[])/\Bdf B bo (U++(bra++(kIf++32::AJ h.root (bls h.names))++ket)) w'/\Wr B bo (w1) w'):=iT AC.out (w1) (U) (m.out.trans (J.out)) aL.out (Nat.le_trans ab ((m.out.trans (J.out))).size) [⟨#[105,102]⟩,(mkB (AJ h.root (bls h.names)))] (by simp) (by have:=O.out;rw[A.out]at this;simp[fh,bls,bl,mkB,eY,kIf,eu,fX,jS,eI,gx,bra,ket]at this ⊢;omega)
   go_wp2_with fail
   refine A1.out.mono ?_
   rintro e w2 ⟨rfl,az,av⟩
   have aK:=AF az
   have ac:=AF ((J.out).trans av)
   clear az av p0 p2 p3 p4 p5 p6 p7
   obtain⟨p0,p2,p3,p4,p5,p6,p7⟩:=K.out _ ac.out
   have R:=N.out _ (m.out.trans ac.out)
   go_wp2_with fail
   refine(KC.out _ (U++(bra++(kIf++32::AJ h.root (bls h.names))++ket)) (m.out.trans (ac.out)) aK.out (by have:=O.out;rw[A.out]at this;simp[fh,bls,bl,mkB,eY,kIf,eu,fX,jS,eI,gx,bra,ket]at this ⊢;omega)).mono ?_
   rintro e w3 ⟨rfl,ay,au⟩
   have aA:=AF ay
   have I:=AF ((ac.out).trans au)
   clear ay au p0 p2 p3 p4 p5 p6 p7
   obtain⟨p0,p2,p3,p4,p5,p6,p7⟩:=K.out _ I.out
   have R:=N.out _ (m.out.trans I.out)
   by_cases E:M.isNil=true
   · have aj:Hid ((if M.isNil then[]else eI++M.src false)=[]):=if_pos E
     have aF:¬(0:Int)<(M.len:Int):=by rw[jP]at E;have:=of_decide_eq_true E;omega
     clear E
     rw[aj.out]at A
     have A3:Hid (Calls Tryz.prog 110 #[.slice (some ⟨(w3).heap.size,0,none⟩) 1 1,.pointer (some ⟨w.heap.size,0,none⟩)] ((w3).alloc (.cells #[.string ⟨#[101,110,100]⟩] 9)) λe w'=>e=.returned (.tuple #[])/\Bdf B bo ((U++(bra++(kIf++32::AJ h.root (bls h.names))++ket))++Z.src false++(gx)) w'/\Wr B bo (w3) w'):=iT AC.out (w3) ((U++(bra++(kIf++32::AJ h.root (bls h.names))++ket))++Z.src false) (m.out.trans (I.out)) aA.out (Nat.le_trans ab ((m.out.trans (I.out))).size) [⟨#[101,110,100]⟩] (by simp) (by have:=O.out;rw[A.out]at this;simp[fh,bls,bl,mkB,eY,kIf,eu,fX,jS,eI,gx,bra,ket]at this ⊢;omega)
     go_wp2_with fail
     refine A3.out.mono ?_
     rintro e w4 ⟨rfl,W,V⟩
     have am:=AF W
     have G:=AF ((I.out).trans V)
     clear W V p0 p2 p3 p4 p5 p6 p7
     obtain⟨p0,p2,p3,p4,p5,p6,p7⟩:=K.out _ G.out
     have R:=N.out _ (m.out.trans G.out)
     go_wp2_with fail
     have al:Hid ((((U++(bra++(kIf++32::AJ h.root (bls h.names))++ket))++Z.src false)++(gx))++r.src (decide (h.kind=1))=l++t.src false):=by
      have:=HE.out
      rw[fp]at this
      unfold Hid;rw[<-this,A.out];simp
     have aM:=ag.out
     go_roundw
     case rel=>exact⟨k+1,_,r,_,by go_num,(by have:=aD.out;omega),am.out,aB.out.trans (m.out.trans G.out),(by first | exact ad | exact λh=>⟨trivial,(ad.out h).2⟩),ao,by omega,al,ag⟩
     case measure=>simp[intOf];omega
   · have aj:Hid ((if M.isNil then[]else eI++M.src false)=eI++M.src false):=if_neg E
     have aF:(0:Int)<(M.len:Int):=by rw[jP]at E;have:¬M.len=0:=λe=>E (decide_eq_true e);omega
     clear E
     rw[aj.out]at A
     have A3:Hid (Calls Tryz.prog 110 #[.slice (some ⟨(w3).heap.size,0,none⟩) 1 1,.pointer (some ⟨w.heap.size,0,none⟩)] ((w3).alloc (.cells #[.string ⟨#[101,108,115,101]⟩] 9)) λe w'=>e=.returned (.tuple #[])/\Bdf B bo ((U++(bra++(kIf++32::AJ h.root (bls h.names))++ket))++Z.src false++(eI)) w'/\Wr B bo (w3) w'):=iT AC.out (w3) ((U++(bra++(kIf++32::AJ h.root (bls h.names))++ket))++Z.src false) (m.out.trans (I.out)) aA.out (Nat.le_trans ab ((m.out.trans (I.out))).size) [⟨#[101,108,115,101]⟩] (by simp) (by have:=O.out;rw[A.out]at this;simp[fh,bls,bl,mkB,eY,kIf,eu,fX,jS,eI,gx,bra,ket]at this ⊢;omega)
     go_wp2_with fail
     refine A3.out.mono ?_
     rintro e w4 ⟨rfl,W,V⟩
     have am:=AF W
     have G:=AF ((I.out).trans V)
     clear W V p0 p2 p3 p4 p5 p6 p7
     obtain⟨p0,p2,p3,p4,p5,p6,p7⟩:=K.out _ G.out
     have R:=N.out _ (m.out.trans G.out)
     go_wp2_with fail
     refine(EC.out _ (((U++(bra++(kIf++32::AJ h.root (bls h.names))++ket))++Z.src false)++(eI)) (m.out.trans (G.out)) am.out (by have:=O.out;rw[A.out]at this;simp[fh,bls,bl,mkB,eY,kIf,eu,fX,jS,eI,gx,bra,ket]at this ⊢;omega)).mono ?_
     rintro e w5 ⟨rfl,ax,ar⟩
     have aJ:=AF ax
     have Y:=AF ((G.out).trans ar)
     clear ax ar p0 p2 p3 p4 p5 p6 p7
     obtain⟨p0,p2,p3,p4,p5,p6,p7⟩:=K.out _ Y.out
     have R:=N.out _ (m.out.trans Y.out)
     have A4:Hid (Calls Tryz.prog 110 #[.slice (some ⟨(w5).heap.size,0,none⟩) 1 1,.pointer (some ⟨w.heap.size,0,none⟩)] ((w5).alloc (.cells #[.string ⟨#[101,110,100]⟩] 9)) λe w'=>e=.returned (.tuple #[])/\Bdf B bo ((((U++(bra++(kIf++32::AJ h.root (bls h.names))++ket))++Z.src false)++(eI))++M.src false++(gx)) w'/\Wr B bo (w5) w'):=iT AC.out (w5) ((((U++(bra++(kIf++32::AJ h.root (bls h.names))++ket))++Z.src false)++(eI))++M.src false) (m.out.trans (Y.out)) aJ.out (Nat.le_trans ab ((m.out.trans (Y.out))).size) [⟨#[101,110,100]⟩] (by simp) (by have:=O.out;rw[A.out]at this;simp[fh,bls,bl,mkB,eY,kIf,eu,fX,jS,eI,gx,bra,ket]at this ⊢;omega)
     go_wp2_with fail
     refine A4.out.mono ?_
     rintro e w6 ⟨rfl,aw,aq⟩
     have aI:=AF aw
     have ai:=AF ((Y.out).trans aq)
     clear aw aq p0 p2 p3 p4 p5 p6 p7
     obtain⟨p0,p2,p3,p4,p5,p6,p7⟩:=K.out _ ai.out
     have R:=N.out _ (m.out.trans ai.out)
     go_wp2_with fail
     have al:Hid ((((((U++(bra++(kIf++32::AJ h.root (bls h.names))++ket))++Z.src false)++(eI))++M.src false)++(gx))++r.src (decide (h.kind=1))=l++t.src false):=by
      have:=HE.out
      rw[fp]at this
      unfold Hid;rw[<-this,A.out];simp
     have aM:=ag.out
     go_roundw
     case rel=>exact⟨k+1,_,r,_,by go_num,(by have:=aD.out;omega),aI.out,aB.out.trans (m.out.trans ai.out),(by first | exact ad | exact λh=>⟨trivial,(ad.out h).2⟩),ao,by omega,al,ag⟩
     case measure=>simp[intOf];omega
 · skip
   have f1:((h.kind:Int)==1)=false:=beq_eq_false_iff_ne.2 (by omega)
   have f2:((h.kind:Int)==2)=false:=beq_eq_false_iff_ne.2 (by omega)
   have f3:((h.kind:Int)==3)=false:=beq_eq_false_iff_ne.2 (by omega)
   have f4:((h.kind:Int)==4)=true:=by rw[aa];rfl
   have f5:((h.kind:Int)==5)=false:=beq_eq_false_iff_ne.2 (by omega)
   have A:Hid (eO h Z M af=bra++(eu++32::AJ h.root (bls h.names))++ket++Pt.src false Z++(if M.isNil then[]else eI++Pt.src false M)++gx):=by
    unfold Hid eO;rw[if_neg (by omega),if_neg (by omega),if_neg (by omega),if_pos (by omega)]
    congr 7
    rw[if_pos aa]
   have aS:=AF aa
   have ap:(AJ h.root (bls h.names)).length<=16777216:=by have:=O.out;rw[A.out]at this;simp at this;omega
   clear aa hu
   unfold eo at aC m aE
   have P1:=AF (PC.out _ m.out ap)
   go_wp2_with fail
   generalize aG:World.alloc wr _=W0 at*
   clear aG
   have aH:B<=W0.heap.size:=Nat.le_trans ab m.out.size
   have K:=aC
   refine P1.out.mono ?_
   rintro e w1 ⟨rfl,ah⟩
   have J:=AF (Wr.below (b:=bo) ah aH)
   have aL:=AF (aE.out.below ah)
   clear ah P1
   obtain⟨p0,p2,p3,p4,p5,p6,p7⟩:=K.out _ J.out
   have R:=N.out _ (m.out.trans J.out)
   have A1:Hid (Calls Tryz.prog 110 #[.slice (some ⟨(w1).heap.size,0,none⟩) 2 2,.pointer (some ⟨w.heap.size,0,none⟩)] ((w1).alloc (.cells #[.string ⟨#[114,97,110,103,101]⟩,.string (mkB (AJ h.root (bls h.names)))] 9)) λe w'=>e=.returned (.tuple #[])/\Bdf B bo (U++(bra++(eu++32::AJ h.root (bls h.names))++ket)) w'/\Wr B bo (w1) w'):=iT AC.out (w1) (U) (m.out.trans (J.out)) aL.out (Nat.le_trans ab ((m.out.trans (J.out))).size) [⟨#[114,97,110,103,101]⟩,(mkB (AJ h.root (bls h.names)))] (by simp) (by have:=O.out;rw[A.out]at this;simp[fh,bls,bl,mkB,eY,kIf,eu,fX,jS,eI,gx,bra,ket]at this ⊢;omega)
   go_wp2_with fail
   refine A1.out.mono ?_
   rintro e w2 ⟨rfl,az,av⟩
   have aK:=AF az
   have ac:=AF ((J.out).trans av)
   clear az av p0 p2 p3 p4 p5 p6 p7
   obtain⟨p0,p2,p3,p4,p5,p6,p7⟩:=K.out _ ac.out
   have R:=N.out _ (m.out.trans ac.out)
   go_wp2_with fail
   refine(KC.out _ (U++(bra++(eu++32::AJ h.root (bls h.names))++ket)) (m.out.trans (ac.out)) aK.out (by have:=O.out;rw[A.out]at this;simp[fh,bls,bl,mkB,eY,kIf,eu,fX,jS,eI,gx,bra,ket]at this ⊢;omega)).mono ?_
   rintro e w3 ⟨rfl,ay,au⟩
   have aA:=AF ay
   have I:=AF ((ac.out).trans au)
   clear ay au p0 p2 p3 p4 p5 p6 p7
   obtain⟨p0,p2,p3,p4,p5,p6,p7⟩:=K.out _ I.out
   have R:=N.out _ (m.out.trans I.out)
   by_cases E:M.isNil=true
   · have aj:Hid ((if M.isNil then[]else eI++M.src false)=[]):=if_pos E
     have aF:¬(0:Int)<(M.len:Int):=by rw[jP]at E;have:=of_decide_eq_true E;omega
     clear E
     rw[aj.out]at A
     have A3:Hid (Calls Tryz.prog 110 #[.slice (some ⟨(w3).heap.size,0,none⟩) 1 1,.pointer (some ⟨w.heap.size,0,none⟩)] ((w3).alloc (.cells #[.string ⟨#[101,110,100]⟩] 9)) λe w'=>e=.returned (.tuple #[])/\Bdf B bo ((U++(bra++(eu++32::AJ h.root (bls h.names))++ket))++Z.src false++(gx)) w'/\Wr B bo (w3) w'):=iT AC.out (w3) ((U++(bra++(eu++32::AJ h.root (bls h.names))++ket))++Z.src false) (m.out.trans (I.out)) aA.out (Nat.le_trans ab ((m.out.trans (I.out))).size) [⟨#[101,110,100]⟩] (by simp) (by have:=O.out;rw[A.out]at this;simp[fh,bls,bl,mkB,eY,kIf,eu,fX,jS,eI,gx,bra,ket]at this ⊢;omega)
     go_wp2_with fail
     refine A3.out.mono ?_
     rintro e w4 ⟨rfl,W,V⟩
     have am:=AF W
     have G:=AF ((I.out).trans V)
     clear W V p0 p2 p3 p4 p5 p6 p7
     obtain⟨p0,p2,p3,p4,p5,p6,p7⟩:=K.out _ G.out
     have R:=N.out _ (m.out.trans G.out)
     go_wp2_with fail
     have al:Hid ((((U++(bra++(eu++32::AJ h.root (bls h.names))++ket))++Z.src false)++(gx))++r.src (decide (h.kind=1))=l++t.src false):=by
      have:=HE.out
      rw[fp]at this
      unfold Hid;rw[<-this,A.out];simp
     have aM:=ag.out
     go_roundw
     case rel=>exact⟨k+1,_,r,_,by go_num,(by have:=aD.out;omega),am.out,aB.out.trans (m.out.trans G.out),(by first | exact ad | exact λh=>⟨trivial,(ad.out h).2⟩),ao,by omega,al,ag⟩
     case measure=>simp[intOf];omega
   · have aj:Hid ((if M.isNil then[]else eI++M.src false)=eI++M.src false):=if_neg E
     have aF:(0:Int)<(M.len:Int):=by rw[jP]at E;have:¬M.len=0:=λe=>E (decide_eq_true e);omega
     clear E
     rw[aj.out]at A
     have A3:Hid (Calls Tryz.prog 110 #[.slice (some ⟨(w3).heap.size,0,none⟩) 1 1,.pointer (some ⟨w.heap.size,0,none⟩)] ((w3).alloc (.cells #[.string ⟨#[101,108,115,101]⟩] 9)) λe w'=>e=.returned (.tuple #[])/\Bdf B bo ((U++(bra++(eu++32::AJ h.root (bls h.names))++ket))++Z.src false++(eI)) w'/\Wr B bo (w3) w'):=iT AC.out (w3) ((U++(bra++(eu++32::AJ h.root (bls h.names))++ket))++Z.src false) (m.out.trans (I.out)) aA.out (Nat.le_trans ab ((m.out.trans (I.out))).size) [⟨#[101,108,115,101]⟩] (by simp) (by have:=O.out;rw[A.out]at this;simp[fh,bls,bl,mkB,eY,kIf,eu,fX,jS,eI,gx,bra,ket]at this ⊢;omega)
     go_wp2_with fail
     refine A3.out.mono ?_
     rintro e w4 ⟨rfl,W,V⟩
     have am:=AF W
     have G:=AF ((I.out).trans V)
     clear W V p0 p2 p3 p4 p5 p6 p7
     obtain⟨p0,p2,p3,p4,p5,p6,p7⟩:=K.out _ G.out
     have R:=N.out _ (m.out.trans G.out)
     go_wp2_with fail
     refine(EC.out _ (((U++(bra++(eu++32::AJ h.root (bls h.names))++ket))++Z.src false)++(eI)) (m.out.trans (G.out)) am.out (by have:=O.out;rw[A.out]at this;simp[fh,bls,bl,mkB,eY,kIf,eu,fX,jS,eI,gx,bra,ket]at this ⊢;omega)).mono ?_
     rintro e w5 ⟨rfl,ax,ar⟩
     have aJ:=AF ax
     have Y:=AF ((G.out).trans ar)
     clear ax ar p0 p2 p3 p4 p5 p6 p7
     obtain⟨p0,p2,p3,p4,p5,p6,p7⟩:=K.out _ Y.out
     have R:=N.out _ (m.out.trans Y.out)
     have A4:Hid (Calls Tryz.prog 110 #[.slice (some ⟨(w5).heap.size,0,none⟩) 1 1,.pointer (some ⟨w.heap.size,0,none⟩)] ((w5).alloc (.cells #[.string ⟨#[101,110,100]⟩] 9)) λe w'=>e=.returned (.tuple #[])/\Bdf B bo ((((U++(bra++(eu++32::AJ h.root (bls h.names))++ket))++Z.src false)++(eI))++M.src false++(gx)) w'/\Wr B bo (w5) w'):=iT AC.out (w5) ((((U++(bra++(eu++32::AJ h.root (bls h.names))++ket))++Z.src false)++(eI))++M.src false) (m.out.trans (Y.out)) aJ.out (Nat.le_trans ab ((m.out.trans (Y.out))).size) [⟨#[101,110,100]⟩] (by simp) (by have:=O.out;rw[A.out]at this;simp[fh,bls,bl,mkB,eY,kIf,eu,fX,jS,eI,gx,bra,ket]at this ⊢;omega)
     go_wp2_with fail
     refine A4.out.mono ?_
     rintro e w6 ⟨rfl,aw,aq⟩
     have aI:=AF aw
     have ai:=AF ((Y.out).trans aq)
     clear aw aq p0 p2 p3 p4 p5 p6 p7
     obtain⟨p0,p2,p3,p4,p5,p6,p7⟩:=K.out _ ai.out
     have R:=N.out _ (m.out.trans ai.out)
     go_wp2_with fail
     have al:Hid ((((((U++(bra++(eu++32::AJ h.root (bls h.names))++ket))++Z.src false)++(eI))++M.src false)++(gx))++r.src (decide (h.kind=1))=l++t.src false):=by
      have:=HE.out
      rw[fp]at this
      unfold Hid;rw[<-this,A.out];simp
     have aM:=ag.out
     go_roundw
     case rel=>exact⟨k+1,_,r,_,by go_num,(by have:=aD.out;omega),aI.out,aB.out.trans (m.out.trans ai.out),(by first | exact ad | exact λh=>⟨trivial,(ad.out h).2⟩),ao,by omega,al,ag⟩
     case measure=>simp[intOf];omega
theorem qK (n:Nat)(I:jD n):jD (n+1):=by
 intro t G B M l v w A r m R E hB
 obtain⟨a,c,rfl,K,J,U⟩:=R
 obtain⟨b,o,N⟩:∃b o,(t≠.nil->a=some ⟨b,o,none⟩/\b<B/\Row (·<B) w t b o):=by
  by_cases G:t=.nil
  · exact⟨0,0,λh=>absurd G h⟩
  · obtain⟨b,o,h⟩:=U G
    exact⟨b,o,λ_=>h⟩
 refine(fJ n (AF I) t G B M l c w (AF A) r (AF m) K J E.lt (AF E) (AF hB) b o (eD t)).2 a (AF N) (λu O=> ?_)
 simp only[List.mem_cons,List.mem_nil_iff,or_false]at O
 rcases O with rfl | rfl | rfl | rfl | rfl
 · exact uo n (AF I) t G B M l c w (AF A) r (AF m) K J E.lt (AF E) (AF hB) b o (eD t)
 · exact um n (AF I) t G B M l c w (AF A) r (AF m) K J E.lt (AF E) (AF hB) b o (eD t)
 · exact ul n (AF I) t G B M l c w (AF A) r (AF m) K J E.lt (AF E) (AF hB) b o (eD t)
 · exact uj n (AF I) t G B M l c w (AF A) r (AF m) K J E.lt (AF E) (AF hB) b o (eD t)
 · exact uh n (AF I) t G B M l c w (AF A) r (AF m) K J E.lt (AF E) (AF hB) b o (eD t)
theorem rN (n:Nat):jD n:=by
 induction n with
 | zero=>intro t h;exact absurd h (Nat.not_lt_zero _)
 | succ n m=>exact qK n m
theorem kG (t:Pt)(B r:Nat)(l:By)(v:Value)(w:World)(A:t.sm)(o:t.cnt<=16777216)(m:l.length+(t.src false).length<=16777216)(E:d8 (·<B) w v t)(G:Bdf B r l w)(hB:B<=w.heap.size):
 Calls Tryz.prog 68 #[.pointer (some ⟨r,0,none⟩),v] w λe w'=>e=.returned (.tuple #[])/\Bdf B r (l++t.src false) w'/\Wr B r w w':=
 rN (t.cnt+1) t (Nat.lt_succ_self _) B r l v w A o m E G hB
end Go.Proofs.YtepcpgdfbaklfaaGreatDoor
