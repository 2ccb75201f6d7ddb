/- (*tmpl.look).parts at a part: kinds of class 3. The condition: as XTlk's. -/
import Derived.Test.YtepcpgdfbaklfaaGreatDoorQcTl0
set_option maxRecDepth 100000
set_option maxHeartbeats 40000000
set_option linter.unusedVariables false
namespace Go.Proofs.YtepcpgdfbaklfaaGreatDoor
open Go.RowKit Go.Shelf
attribute [local go_sem ↓] Go.wp_at_zero Go.wp_at_succ
theorem uL (B bx:Nat)(ap:B<=bx)(aK:Hid (GlB B))(ds:List Df)(aG:ds.length<=16777216)(dv:Value)(n:Nat)(IH:Hid (g8 B bx ds dv n))(t:Pt)(hn:t.cnt<n+1)(A:Nat)(I:Bool)(c many deep:Nat)(tw no:Bool)(w:World)
 (aJ:Hid t.sm) (hm:many+t.cnt<=16777216) (hd:A+t.cnt<=16777216) (aF:deep<=16777216) (aL:Hid (Gd w)) (aM:Hid (fU (·<B) w dv ds)) (h1:t.len<=c) (h2:c<=maxLen) (aB:Hid (Lk bx dv many deep tw no w)) (b o:Nat)
 (aE:t.len<=t.cnt) (aH:t.deep<=t.cnt):(fy B bx ap aK ds aG dv n IH t hn A I c many deep tw no w aJ hm hd aF aL aM h1 h2 aB b o aE aH).1 3:=by
 unfold fy
 intro wr u8 u9 cR cQ cP cO cN cM cL cK cJ cI cH cG cF cE cD cC cB cA cz cy cw cv cu ct cr cq cp co cm cj ci ch cg cd cc cb ca b8 b7 b6 b5 b4 b3 b2 b1 b0 bZ bY bX bW bU bT bS bR bQ bP bO bN bM bL bK bJ bI bH u95 bG bF bE bD bv bu bt bs br bq bp bo bn bm bk bj bi bh bg bf be bd bc ba a8 a7 a6 aZ aY aX aW aV aU aT aS aR aQ aP aO aN k m D N HL E hD h K R r db az HF av dc al g0 g1 g2 g3 g5 ak ck g6 k1 k2 ae ce g7 e1 e2 dd cS c7 c8 da cX cZ cU bB bA bz bw s0 s1 s2 s3 PK PE ai ay G an cn g4 NC n1 n2 GW DW ab cY aC aA cW cT hu
 have bC:=aB.out.lt
 have aj:h.kind=3\/h.kind=4:=(kT hu).2.2.1 rfl
 have ax:h.kind≠5:=by omega
 have O:=AF aj
 have aI:D<=16777216:=by have:=av.out;omega
 have wd:IntKind.i64.wrap ((A:Int)+1)=(A:Int)+1:=by rw[IntWalk.i64_in _ (by omega)]
 have ao:((A+1:Nat):Int)=(A:Int)+1:=by omega
 have CK:Hid (∀W,Gr bx wr W->Lk bx dv m D tw N W->Calls Tryz.prog 38 #[.pointer (some ⟨bx,0,none⟩),.slice ak K.len ck,.int .i64 ((A:Int)+1),.bool false] W (qI bx dv (m+K.cnt) (max D (A+1+K.deep)) tw (N|| !K.called ds) (K.form false) W)):=λW hW hL=>by
  have:=IH.out K (by omega) (A+1) false (.slice ak K.len ck) m D tw N W ai.out.1 (by omega) (by omega) aI (GW.out _ (E.out.trans hW)) (DW.out _ (E.out.trans hW)) (PK.out.kept (hW.keptB ap al)) hL
  rwa[ao]at this
 have CE:Hid (∀W,Gr bx wr W->Lk bx dv (((m+K.cnt):Nat):Int) (((max D (A+1+K.deep)):Nat):Int) tw (N|| !K.called ds) W->Calls Tryz.prog 38 #[.pointer (some ⟨bx,0,none⟩),.slice ae R.len ce,.int .i64 ((A:Int)+1),.bool false] W (qI bx dv ((m+K.cnt)+R.cnt) (max (max D (A+1+K.deep)) (A+1+R.deep)) tw ((N|| !K.called ds)|| !R.called ds) (R.form false) W)):=λW hW hL=>by
  have:=IH.out R (by omega) (A+1) false (.slice ae R.len ce) (m+K.cnt) (max D (A+1+K.deep)) tw (N|| !K.called ds) W ai.out.2.1 (by omega) (by omega) (by omega) (GW.out _ (E.out.trans hW)) (DW.out _ (E.out.trans hW)) (PE.out.kept (hW.keptB ap al)) hL
  rwa[ao]at this
 clear ao hu
 rcases aj with af | af
 ·
  have f1:((h.kind:Int)==1)=false:=beq_eq_false_iff_ne.2 (by omega)
  have f3:((h.kind:Int)==3)=true:=by rw[af];rfl
  clear af
  cases Z:ex (bls h.names)with
  | false=>
    rw[Z]at NC
    have aa:Hid (gj h K R (I&&r.isNil)=false):=by
     refine Bool.eq_false_iff.2 (λe=> ?_)
     have:=((xX h K R _ O.out).1 e).1
     rw[Z]at this
     cases this
    have HX:Hid (t.form I=false):=by unfold Hid;rw[<-HF.out,ab.out,aa.out];rfl
    clear Z
    go_wp2_with fail
    refine(NC.out _ ((Gr.alloc _ _).trans (Gr.alloc _ _))).mono ?_
    rintro e w1 ⟨rfl,M⟩
    have G1:Hid (Gr bx wr w1):=((Gr.alloc _ _).trans (Gr.alloc _ _)).trans (Gr.below M)
    have T1:Hid (Two wr.heap.size h (.slice an h.names.length cn) (.slice ak K.len ck) (.slice ae R.len ce) K R w1):=⟨(eC M).1,(eC M).2.1⟩
    have L1:Hid (Lk bx dv m D tw N w1):=HL.out.below ((((AH wr.heap.size wr).alloc (AG _) _).alloc (by simp) _).trans (M.mono (by simp;omega)))
    clear M g0 g1 g2 g3 g4 g5 g6 g7 NC
    obtain⟨p0,p2,p5,p6,p7,q0,q1,q2,q3,q4,fz⟩:=T1.out.cs
    go_wp2_with fail
    refine(CK.out _ G1.out L1.out).mono ?_
    rintro e w2 ⟨g2,ad⟩
    rcases ad with⟨V,rfl,l2⟩ | ⟨V,rfl⟩
    rotate_left
    ·
     have U:=AF (G1.out.trans g2)
     exact⟨rfl,(by first | exact E.out.trans U.out | exact(E.out.trans U.out).set_new (by omega) _ _ | exact((E.out.trans U.out).set_new (by omega) _ _).set_new (by omega) _ _ | exact(((E.out.trans U.out).set_new (by omega) _ _).set_new (by omega) _ _).set_new (by omega) _ _ | exact((((E.out.trans U.out).set_new (by omega) _ _).set_new (by omega) _ _).set_new (by omega) _ _).set_new (by omega) _ _),.inr ⟨HX.out,rfl⟩⟩
    have ag:=AF V
    have L2:=AF l2
    have U:=AF (G1.out.trans g2)
    have T2:=AF (T1.out.gr g2 G.1 G.2)
    clear V l2 g2 p0 p2 p5 p6 p7 q0 q1 q2 q3 q4 fz CK L1
    obtain⟨p0,p2,p5,p6,p7,q0,q1,q2,q3,q4,fz⟩:=T2.out.cs
    go_wp2_with fail
    refine(CE.out _ U.out L2.out).mono ?_
    rintro e w3 ⟨g3,ac⟩
    rcases ac with⟨Y,rfl,l3⟩ | ⟨Y,rfl⟩
    rotate_left
    ·
     have J:=AF (U.out.trans g3)
     exact⟨rfl,(by first | exact E.out.trans J.out | exact(E.out.trans J.out).set_new (by omega) _ _ | exact((E.out.trans J.out).set_new (by omega) _ _).set_new (by omega) _ _ | exact(((E.out.trans J.out).set_new (by omega) _ _).set_new (by omega) _ _).set_new (by omega) _ _ | exact((((E.out.trans J.out).set_new (by omega) _ _).set_new (by omega) _ _).set_new (by omega) _ _).set_new (by omega) _ _),.inr ⟨HX.out,rfl⟩⟩
    have ah:=AF Y
    have L3:=AF l3
    have J:=AF (U.out.trans g3)
    have T3:=AF (T2.out.gr g3 G.1 G.2)
    clear Y l3 g3 p0 p2 p5 p6 p7 q0 q1 q2 q3 q4 fz CE L2
    obtain⟨p0,p2,p5,p6,p7,q0,q1,q2,q3,q4,fz⟩:=T3.out.cs
    go_wp2_with fail
    all_goals exact⟨rfl,(by first | exact E.out.trans J.out | exact(E.out.trans J.out).set_new (by omega) _ _ | exact((E.out.trans J.out).set_new (by omega) _ _).set_new (by omega) _ _ | exact(((E.out.trans J.out).set_new (by omega) _ _).set_new (by omega) _ _).set_new (by omega) _ _ | exact((((E.out.trans J.out).set_new (by omega) _ _).set_new (by omega) _ _).set_new (by omega) _ _).set_new (by omega) _ _),.inr ⟨HX.out,rfl⟩⟩
  | true=>
    rw[Z]at NC
    have aq:=AF Z
    clear Z
    go_wp2_with fail
    refine(NC.out _ ((Gr.alloc _ _).trans (Gr.alloc _ _))).mono ?_
    rintro e w1 ⟨rfl,M⟩
    have G1:Hid (Gr bx wr w1):=((Gr.alloc _ _).trans (Gr.alloc _ _)).trans (Gr.below M)
    have T1:Hid (Two wr.heap.size h (.slice an h.names.length cn) (.slice ak K.len ck) (.slice ae R.len ce) K R w1):=⟨(eC M).1,(eC M).2.1⟩
    have L1:Hid (Lk bx dv m D tw N w1):=HL.out.below ((((AH wr.heap.size wr).alloc (AG _) _).alloc (by simp) _).trans (M.mono (by simp;omega)))
    clear M g0 g1 g2 g3 g4 g5 g6 g7 NC
    obtain⟨p0,p2,p5,p6,p7,q0,q1,q2,q3,q4,fz⟩:=T1.out.cs
    go_wp2_with fail
    refine(CK.out _ G1.out L1.out).mono ?_
    rintro e w2 ⟨g2,ad⟩
    rcases ad with⟨V,rfl,l2⟩ | ⟨V,rfl⟩
    rotate_left
    ·
     have HX:Hid (t.form I=false):=by unfold Hid;rw[<-HF.out,ab.out,if_pos O.out,V];simp
     have U:=AF (G1.out.trans g2)
     exact⟨rfl,(by first | exact E.out.trans U.out | exact(E.out.trans U.out).set_new (by omega) _ _ | exact((E.out.trans U.out).set_new (by omega) _ _).set_new (by omega) _ _ | exact(((E.out.trans U.out).set_new (by omega) _ _).set_new (by omega) _ _).set_new (by omega) _ _ | exact((((E.out.trans U.out).set_new (by omega) _ _).set_new (by omega) _ _).set_new (by omega) _ _).set_new (by omega) _ _),.inr ⟨HX.out,rfl⟩⟩
    have ag:=AF V
    have L2:=AF l2
    have U:=AF (G1.out.trans g2)
    have T2:=AF (T1.out.gr g2 G.1 G.2)
    clear V l2 g2 p0 p2 p5 p6 p7 q0 q1 q2 q3 q4 fz CK L1
    obtain⟨p0,p2,p5,p6,p7,q0,q1,q2,q3,q4,fz⟩:=T2.out.cs
    go_wp2_with fail
    refine(CE.out _ U.out L2.out).mono ?_
    rintro e w3 ⟨g3,ac⟩
    rcases ac with⟨Y,rfl,l3⟩ | ⟨Y,rfl⟩
    rotate_left
    ·
     have HX:Hid (t.form I=false):=by unfold Hid;rw[<-HF.out,ab.out,if_pos O.out,Y];simp
     have J:=AF (U.out.trans g3)
     exact⟨rfl,(by first | exact E.out.trans J.out | exact(E.out.trans J.out).set_new (by omega) _ _ | exact((E.out.trans J.out).set_new (by omega) _ _).set_new (by omega) _ _ | exact(((E.out.trans J.out).set_new (by omega) _ _).set_new (by omega) _ _).set_new (by omega) _ _ | exact((((E.out.trans J.out).set_new (by omega) _ _).set_new (by omega) _ _).set_new (by omega) _ _).set_new (by omega) _ _),.inr ⟨HX.out,rfl⟩⟩
    have ah:=AF Y
    have L3:=AF l3
    have J:=AF (U.out.trans g3)
    have T3:=AF (T2.out.gr g3 G.1 G.2)
    clear Y l3 g3 p0 p2 p5 p6 p7 q0 q1 q2 q3 q4 fz CE L2
    obtain⟨p0,p2,p5,p6,p7,q0,q1,q2,q3,q4,fz⟩:=T3.out.cs
    go_wp2_with fail
    all_goals first
    | (have aa:Hid (gj h K R (I&&r.isNil)=true):=(xX h K R _ O.out).2 ⟨aq.out,by assumption,by assumption⟩
       have au:Hid (Pt.form I r=t.form I):=by
        unfold Hid;rw[<-HF.out,ab.out,aa.out,if_pos O.out,ag.out,ah.out];simp
       have aw:Hid (max (max (max D (A+1+K.deep)) (A+1+R.deep)) (A+r.deep)=max deep (A+t.deep)):=by
        have:=av.out
        simp only[Pt.deep]at this
        unfold Hid
        rw[if_pos O.out]at this
        omega
       have ar:Hid ((((N|| !K.called ds)|| !R.called ds)|| !r.called ds)=(no|| !t.called ds)):=by
        unfold Hid
        rw[<-az.out]
        simp[Pt.called,ax,Bool.not_and,Bool.or_assoc]
       have am:(m+K.cnt+R.cnt)+r.cnt=many+t.cnt+r.len:=by have aD:=aA.out;omega
       clear aa
       go_roundw
       case rel=>exact⟨k+1,(m+K.cnt+R.cnt),(max (max D (A+1+K.deep)) (A+1+R.deep)),((N|| !K.called ds)|| !R.called ds),r,by go_num,(by have:=aC.out;omega),(by unfold Hid;(first | exact L3.out | exact(L3.out).other G.2 _ _ | exact((L3.out).other G.2 _ _).other G.2 _ _ | exact(((L3.out).other G.2 _ _).other G.2 _ _).other G.2 _ _ | exact((((L3.out).other G.2 _ _).other G.2 _ _).other G.2 _ _).other G.2 _ _)),(by unfold Hid;(first | exact E.out.trans J.out | exact(E.out.trans J.out).set_new (by omega) _ _ | exact((E.out.trans J.out).set_new (by omega) _ _).set_new (by omega) _ _ | exact(((E.out.trans J.out).set_new (by omega) _ _).set_new (by omega) _ _).set_new (by omega) _ _ | exact((((E.out.trans J.out).set_new (by omega) _ _).set_new (by omega) _ _).set_new (by omega) _ _).set_new (by omega) _ _)),ay,ai.out.2.2,am,by omega,by omega,aw.out,ar,au⟩
       case measure=>simp[intOf];omega)
    | (have aa:Hid (gj h K R (I&&r.isNil)=false):=by
        refine Bool.eq_false_iff.2 (λe=> ?_)
        obtain⟨-,x0,x1⟩:=(xX h K R _ O.out).1 e
        first | exact absurd x0 (by assumption) | exact absurd x1 (by assumption)
       have HX:Hid (t.form I=false):=by unfold Hid;rw[<-HF.out,ab.out,aa.out];rfl
       exact⟨rfl,(by first | exact E.out.trans J.out | exact(E.out.trans J.out).set_new (by omega) _ _ | exact((E.out.trans J.out).set_new (by omega) _ _).set_new (by omega) _ _ | exact(((E.out.trans J.out).set_new (by omega) _ _).set_new (by omega) _ _).set_new (by omega) _ _ | exact((((E.out.trans J.out).set_new (by omega) _ _).set_new (by omega) _ _).set_new (by omega) _ _).set_new (by omega) _ _),.inr ⟨HX.out,rfl⟩⟩)
 ·
  have f1:((h.kind:Int)==1)=false:=beq_eq_false_iff_ne.2 (by omega)
  have f3:((h.kind:Int)==3)=false:=beq_eq_false_iff_ne.2 (by omega)
  have f4:((h.kind:Int)==4)=true:=by rw[af];rfl
  clear af
  cases Z:ex (bls h.names)with
  | false=>
    rw[Z]at NC
    have aa:Hid (gj h K R (I&&r.isNil)=false):=by
     refine Bool.eq_false_iff.2 (λe=> ?_)
     have:=((xX h K R _ O.out).1 e).1
     rw[Z]at this
     cases this
    have HX:Hid (t.form I=false):=by unfold Hid;rw[<-HF.out,ab.out,aa.out];rfl
    clear Z
    go_wp2_with fail
    refine(NC.out _ ((Gr.alloc _ _).trans (Gr.alloc _ _))).mono ?_
    rintro e w1 ⟨rfl,M⟩
    have G1:Hid (Gr bx wr w1):=((Gr.alloc _ _).trans (Gr.alloc _ _)).trans (Gr.below M)
    have T1:Hid (Two wr.heap.size h (.slice an h.names.length cn) (.slice ak K.len ck) (.slice ae R.len ce) K R w1):=⟨(eC M).1,(eC M).2.1⟩
    have L1:Hid (Lk bx dv m D tw N w1):=HL.out.below ((((AH wr.heap.size wr).alloc (AG _) _).alloc (by simp) _).trans (M.mono (by simp;omega)))
    clear M g0 g1 g2 g3 g4 g5 g6 g7 NC
    obtain⟨p0,p2,p5,p6,p7,q0,q1,q2,q3,q4,fz⟩:=T1.out.cs
    go_wp2_with fail
    refine(CK.out _ G1.out L1.out).mono ?_
    rintro e w2 ⟨g2,ad⟩
    rcases ad with⟨V,rfl,l2⟩ | ⟨V,rfl⟩
    rotate_left
    ·
     have U:=AF (G1.out.trans g2)
     exact⟨rfl,(by first | exact E.out.trans U.out | exact(E.out.trans U.out).set_new (by omega) _ _ | exact((E.out.trans U.out).set_new (by omega) _ _).set_new (by omega) _ _ | exact(((E.out.trans U.out).set_new (by omega) _ _).set_new (by omega) _ _).set_new (by omega) _ _ | exact((((E.out.trans U.out).set_new (by omega) _ _).set_new (by omega) _ _).set_new (by omega) _ _).set_new (by omega) _ _),.inr ⟨HX.out,rfl⟩⟩
    have ag:=AF V
    have L2:=AF l2
    have U:=AF (G1.out.trans g2)
    have T2:=AF (T1.out.gr g2 G.1 G.2)
    clear V l2 g2 p0 p2 p5 p6 p7 q0 q1 q2 q3 q4 fz CK L1
    obtain⟨p0,p2,p5,p6,p7,q0,q1,q2,q3,q4,fz⟩:=T2.out.cs
    go_wp2_with fail
    refine(CE.out _ U.out L2.out).mono ?_
    rintro e w3 ⟨g3,ac⟩
    rcases ac with⟨Y,rfl,l3⟩ | ⟨Y,rfl⟩
    rotate_left
    ·
     have J:=AF (U.out.trans g3)
     exact⟨rfl,(by first | exact E.out.trans J.out | exact(E.out.trans J.out).set_new (by omega) _ _ | exact((E.out.trans J.out).set_new (by omega) _ _).set_new (by omega) _ _ | exact(((E.out.trans J.out).set_new (by omega) _ _).set_new (by omega) _ _).set_new (by omega) _ _ | exact((((E.out.trans J.out).set_new (by omega) _ _).set_new (by omega) _ _).set_new (by omega) _ _).set_new (by omega) _ _),.inr ⟨HX.out,rfl⟩⟩
    have ah:=AF Y
    have L3:=AF l3
    have J:=AF (U.out.trans g3)
    have T3:=AF (T2.out.gr g3 G.1 G.2)
    clear Y l3 g3 p0 p2 p5 p6 p7 q0 q1 q2 q3 q4 fz CE L2
    obtain⟨p0,p2,p5,p6,p7,q0,q1,q2,q3,q4,fz⟩:=T3.out.cs
    go_wp2_with fail
    all_goals exact⟨rfl,(by first | exact E.out.trans J.out | exact(E.out.trans J.out).set_new (by omega) _ _ | exact((E.out.trans J.out).set_new (by omega) _ _).set_new (by omega) _ _ | exact(((E.out.trans J.out).set_new (by omega) _ _).set_new (by omega) _ _).set_new (by omega) _ _ | exact((((E.out.trans J.out).set_new (by omega) _ _).set_new (by omega) _ _).set_new (by omega) _ _).set_new (by omega) _ _),.inr ⟨HX.out,rfl⟩⟩
  | true=>
    rw[Z]at NC
    have aq:=AF Z
    clear Z
    go_wp2_with fail
    refine(NC.out _ ((Gr.alloc _ _).trans (Gr.alloc _ _))).mono ?_
    rintro e w1 ⟨rfl,M⟩
    have G1:Hid (Gr bx wr w1):=((Gr.alloc _ _).trans (Gr.alloc _ _)).trans (Gr.below M)
    have T1:Hid (Two wr.heap.size h (.slice an h.names.length cn) (.slice ak K.len ck) (.slice ae R.len ce) K R w1):=⟨(eC M).1,(eC M).2.1⟩
    have L1:Hid (Lk bx dv m D tw N w1):=HL.out.below ((((AH wr.heap.size wr).alloc (AG _) _).alloc (by simp) _).trans (M.mono (by simp;omega)))
    clear M g0 g1 g2 g3 g4 g5 g6 g7 NC
    obtain⟨p0,p2,p5,p6,p7,q0,q1,q2,q3,q4,fz⟩:=T1.out.cs
    go_wp2_with fail
    refine(CK.out _ G1.out L1.out).mono ?_
    rintro e w2 ⟨g2,ad⟩
    rcases ad with⟨V,rfl,l2⟩ | ⟨V,rfl⟩
    rotate_left
    ·
     have HX:Hid (t.form I=false):=by unfold Hid;rw[<-HF.out,ab.out,if_pos O.out,V];simp
     have U:=AF (G1.out.trans g2)
     exact⟨rfl,(by first | exact E.out.trans U.out | exact(E.out.trans U.out).set_new (by omega) _ _ | exact((E.out.trans U.out).set_new (by omega) _ _).set_new (by omega) _ _ | exact(((E.out.trans U.out).set_new (by omega) _ _).set_new (by omega) _ _).set_new (by omega) _ _ | exact((((E.out.trans U.out).set_new (by omega) _ _).set_new (by omega) _ _).set_new (by omega) _ _).set_new (by omega) _ _),.inr ⟨HX.out,rfl⟩⟩
    have ag:=AF V
    have L2:=AF l2
    have U:=AF (G1.out.trans g2)
    have T2:=AF (T1.out.gr g2 G.1 G.2)
    clear V l2 g2 p0 p2 p5 p6 p7 q0 q1 q2 q3 q4 fz CK L1
    obtain⟨p0,p2,p5,p6,p7,q0,q1,q2,q3,q4,fz⟩:=T2.out.cs
    go_wp2_with fail
    refine(CE.out _ U.out L2.out).mono ?_
    rintro e w3 ⟨g3,ac⟩
    rcases ac with⟨Y,rfl,l3⟩ | ⟨Y,rfl⟩
    rotate_left
    ·
     have HX:Hid (t.form I=false):=by unfold Hid;rw[<-HF.out,ab.out,if_pos O.out,Y];simp
     have J:=AF (U.out.trans g3)
     exact⟨rfl,(by first | exact E.out.trans J.out | exact(E.out.trans J.out).set_new (by omega) _ _ | exact((E.out.trans J.out).set_new (by omega) _ _).set_new (by omega) _ _ | exact(((E.out.trans J.out).set_new (by omega) _ _).set_new (by omega) _ _).set_new (by omega) _ _ | exact((((E.out.trans J.out).set_new (by omega) _ _).set_new (by omega) _ _).set_new (by omega) _ _).set_new (by omega) _ _),.inr ⟨HX.out,rfl⟩⟩
    have ah:=AF Y
    have L3:=AF l3
    have J:=AF (U.out.trans g3)
    have T3:=AF (T2.out.gr g3 G.1 G.2)
    clear Y l3 g3 p0 p2 p5 p6 p7 q0 q1 q2 q3 q4 fz CE L2
    obtain⟨p0,p2,p5,p6,p7,q0,q1,q2,q3,q4,fz⟩:=T3.out.cs
    go_wp2_with fail
    all_goals first
    | (have aa:Hid (gj h K R (I&&r.isNil)=true):=(xX h K R _ O.out).2 ⟨aq.out,by assumption,by assumption⟩
       have au:Hid (Pt.form I r=t.form I):=by
        unfold Hid;rw[<-HF.out,ab.out,aa.out,if_pos O.out,ag.out,ah.out];simp
       have aw:Hid (max (max (max D (A+1+K.deep)) (A+1+R.deep)) (A+r.deep)=max deep (A+t.deep)):=by
        have:=av.out
        simp only[Pt.deep]at this
        unfold Hid
        rw[if_pos O.out]at this
        omega
       have ar:Hid ((((N|| !K.called ds)|| !R.called ds)|| !r.called ds)=(no|| !t.called ds)):=by
        unfold Hid
        rw[<-az.out]
        simp[Pt.called,ax,Bool.not_and,Bool.or_assoc]
       have am:(m+K.cnt+R.cnt)+r.cnt=many+t.cnt+r.len:=by have aD:=aA.out;omega
       clear aa
       go_roundw
       case rel=>exact⟨k+1,(m+K.cnt+R.cnt),(max (max D (A+1+K.deep)) (A+1+R.deep)),((N|| !K.called ds)|| !R.called ds),r,by go_num,(by have:=aC.out;omega),(by unfold Hid;(first | exact L3.out | exact(L3.out).other G.2 _ _ | exact((L3.out).other G.2 _ _).other G.2 _ _ | exact(((L3.out).other G.2 _ _).other G.2 _ _).other G.2 _ _ | exact((((L3.out).other G.2 _ _).other G.2 _ _).other G.2 _ _).other G.2 _ _)),(by unfold Hid;(first | exact E.out.trans J.out | exact(E.out.trans J.out).set_new (by omega) _ _ | exact((E.out.trans J.out).set_new (by omega) _ _).set_new (by omega) _ _ | exact(((E.out.trans J.out).set_new (by omega) _ _).set_new (by omega) _ _).set_new (by omega) _ _ | exact((((E.out.trans J.out).set_new (by omega) _ _).set_new (by omega) _ _).set_new (by omega) _ _).set_new (by omega) _ _)),ay,ai.out.2.2,am,by omega,by omega,aw.out,ar,au⟩
       case measure=>simp[intOf];omega)
    | (have aa:Hid (gj h K R (I&&r.isNil)=false):=by
        refine Bool.eq_false_iff.2 (λe=> ?_)
        obtain⟨-,x0,x1⟩:=(xX h K R _ O.out).1 e
        first | exact absurd x0 (by assumption) | exact absurd x1 (by assumption)
       have HX:Hid (t.form I=false):=by unfold Hid;rw[<-HF.out,ab.out,aa.out];rfl
       exact⟨rfl,(by first | exact E.out.trans J.out | exact(E.out.trans J.out).set_new (by omega) _ _ | exact((E.out.trans J.out).set_new (by omega) _ _).set_new (by omega) _ _ | exact(((E.out.trans J.out).set_new (by omega) _ _).set_new (by omega) _ _).set_new (by omega) _ _ | exact((((E.out.trans J.out).set_new (by omega) _ _).set_new (by omega) _ _).set_new (by omega) _ _).set_new (by omega) _ _),.inr ⟨HX.out,rfl⟩⟩)
end Go.Proofs.YtepcpgdfbaklfaaGreatDoor
