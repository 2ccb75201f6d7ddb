/- (*tmpl.look).parts at a part: kinds of class 5. The condition: as XTlk's. -/
import Derived.Test.YtepcpgdfbaklfaaGreatDoorQcTl0
set_option maxRecDepth 100000
set_option maxHeartbeats 40000000
set_option linter.unusedVariables false
namespace Go.Proofs.YtepcpgdfbaklfaaGreatDoor
open Go.RowKit Go.Shelf
attribute [local go_sem ↓] Go.wp_at_zero Go.wp_at_succ
theorem rC (B:Nat)(w:World):Below B w w.drew:=⟨rfl,rfl,rfl,AG _,λ_ _=>rfl⟩
theorem uK (B bx:Nat)(aJ:B<=bx)(aL:Hid (GlB B))(ds:List Df)(aH:ds.length<=16777216)(dv:Value)(n:Nat)(IH:Hid (g8 B bx ds dv n))(t:Pt)(hn:t.cnt<n+1)(aa:Nat)(E:Bool)(c many deep:Nat)(tw no:Bool)(w:World)
 (aK:Hid t.sm) (hm:many+t.cnt<=16777216) (hd:aa+t.cnt<=16777216) (aG:deep<=16777216) (aM:Hid (Gd w)) (aN:Hid (fU (·<B) w dv ds)) (h1:t.len<=c) (h2:c<=maxLen) (aB:Hid (Lk bx dv many deep tw no w)) (b o:Nat)
 (aF:t.len<=t.cnt) (aI:t.deep<=t.cnt):(fy B bx aJ aL ds aH dv n IH t hn aa E c many deep tw no w aK hm hd aG aM aN h1 h2 aB b o aF aI).1 5:=by
 unfold fy
 intro wr u8 u9 cT cS cR cQ cP cO cN cM cL cK cJ cI cH cG cF cE cD cC cB cA cz cy cw cv cu ct cr cq cp co cm cj ci ch cg cd cc cb ca b8 b7 b6 b5 b4 b3 b2 b1 b0 bZ bY bX bW bU bT bS bR bQ bP bO bN bM bL bK bJ u95 bI bH bG bF bw bv bu bt bs br bq bp bo bn bm bk bj bi bh bg bf be bd bc ba a8 a7 a6 aZ aY aX aW aV aU aT aS aR aQ aP aO k m D N HL I hD h kd el r dd ay HF aE de bE g0 g1 g2 g3 g5 ak ck g6 k1 k2 ae ce g7 e1 e2 dh cU da db dc cZ c8 cX bC bB bA bz s0 s1 s2 s3 PK PE aw av A an cn g4 NC n1 n2 GW DW ah c7 aC aA cY cW hu
 have bD:=aB.out.lt
 have am:h.kind=5:=(kT hu).2.2.2.1 rfl
 have f1:((h.kind:Int)==1)=false:=beq_eq_false_iff_ne.2 (by omega)
 have f3:((h.kind:Int)==3)=false:=beq_eq_false_iff_ne.2 (by omega)
 have f4:((h.kind:Int)==4)=false:=beq_eq_false_iff_ne.2 (by omega)
 have f5:((h.kind:Int)==5)=true:=by rw[am];rfl
 have ad:=AF am
 have aD:Hid ((if h.kind=3\/h.kind=4 then Pt.form false kd&&Pt.form false el else true)=true):=if_neg (by omega)
 have aj:¬(h.kind=3\/h.kind=4):=by omega
 clear am hu
 have MC:Hid (∀W,Calls Tryz.prog 39 #[.string h.name] W λe w'=>e=.returned (.bool (eK (bl h.name)))/\Below W.heap.size W w'):=λW=>iy h.name (by omega) W
 have DC:Hid (∀W,Gr bx w W->Calls Tryz.prog 48 #[dv,.string h.name] W λe w'=>e=.returned (.bool (eE ds (bl h.name)))/\Below W.heap.size W w'):=λW hW=>gm (·<B) ds (by omega) h.name dv W (DW.out W hW) (λb hb=>by have:=hW.size;have dg:b<B:=hb;omega)
 cases af:ex (bls h.names)with
 | false=>
   rw[af]at NC
   have ab:Hid (gj h kd el (E&&r.isNil)=false):=by
    refine Bool.eq_false_iff.2 (λe=> ?_)
    have:=((hd5 h kd el _ ad.out).1 e).1
    rw[af]at this
    cases this
   have HX:Hid (t.form E=false):=by unfold Hid;rw[<-HF.out,ah.out,ab.out];rfl
   clear af
   go_wp2_with fail
   refine(NC.out _ ((Gr.alloc _ _).trans (Gr.alloc _ _))).mono ?_
   rintro e w1 ⟨rfl,V⟩
   have G1:Hid (Gr bx wr w1):=((Gr.alloc _ _).trans (Gr.alloc _ _)).trans (Gr.below V)
   have T1:Hid (Two wr.heap.size h (.slice an h.names.length cn) (.slice ak kd.len ck) (.slice ae el.len ce) kd el w1):=⟨(eC V).1,(eC V).2.1⟩
   have L1:Hid (Lk bx dv m D tw N w1):=HL.out.below ((((AH wr.heap.size wr).alloc (AG _) _).alloc (by simp) _).trans (V.mono (by simp;omega)))
   clear V g0 g1 g2 g3 g4 g5 g6 g7 NC
   obtain⟨p0,p2,p5,p6,p7,q0,q1,q2,q3,q4,fz⟩:=T1.out.cs
   go_upto_region 20 with(fail)
   cases N with
   | false=>
     obtain⟨U,R,O,M,K,J⟩:=L1.out.cs
     go_region_with (go_at_call 48;refine(DC.out _ ((I.out.trans G1.out).trans (Gr.drew _))).mono ?_;rintro e w3 ⟨rfl,Z⟩;have L3:=AF ((L1.out.below (rC _ _)).below Z);have G3:=AF ((G1.out.trans (Gr.drew _)).trans (Gr.below (bx:=bx) Z));have T3:=AF ((T1.out.gr (Gr.drew (bx:=bx) _) A.1 A.2).gr (Gr.below (bx:=bx) Z) A.1 A.2);clear Z U R O M K J;obtain⟨U,R,O,M,K,J⟩:=L3.out.cs)
     all_goals
      clear U R O M K J
      have L4:=AF (L3.out.set4 (!eE ds (bl h.name)))
      have G:=AF (G3.out.trans (Gr.set (bx:=bx) w3 4 (.bool (!eE ds (bl h.name)))))
      have T4:=AF (T3.out.gr (Gr.set (bx:=bx) w3 4 (.bool (!eE ds (bl h.name)))) A.1 A.2)
      clear L3 G3 T3
      generalize World.setCell w3 ⟨bx,4,none⟩ _=W4 at*
      obtain⟨p0,p2,p5,p6,p7,q0,q1,q2,q3,q4,fz⟩:=T4.out.cs
      go_wp2_with fail
      all_goals exact⟨rfl,(by first | exact I.out.trans G.out | exact(I.out.trans G.out).set_new (by omega) _ _ | exact((I.out.trans G.out).set_new (by omega) _ _).set_new (by omega) _ _ | exact(((I.out.trans G.out).set_new (by omega) _ _).set_new (by omega) _ _).set_new (by omega) _ _ | exact((((I.out.trans G.out).set_new (by omega) _ _).set_new (by omega) _ _).set_new (by omega) _ _).set_new (by omega) _ _),.inr ⟨HX.out,rfl⟩⟩
   | true=>
     obtain⟨LD,Y⟩:∃W,w1.drew=W:=⟨_,rfl⟩
     have L3:Hid (Lk bx dv m D tw true LD):=by rw[<-Y];exact L1.out.below (rC _ _)
     have G3:Hid (Gr bx wr LD):=by rw[<-Y];exact G1.out.trans (Gr.drew _)
     have T3:Hid (Two wr.heap.size h (.slice an h.names.length cn) (.slice ak kd.len ck) (.slice ae el.len ce) kd el LD):=by rw[<-Y];exact T1.out.gr (Gr.drew (bx:=bx) _) A.1 A.2
     obtain⟨U,R,O,M,K,J⟩:=L3.out.cs
     go_region
     all_goals
      clear U R O M K J
      try rw[Y]
      clear Y
      have L4:=AF (L3.out.set4 (true))
      have G:=AF (G3.out.trans (Gr.set (bx:=bx) LD 4 (.bool (true))))
      have T4:=AF (T3.out.gr (Gr.set (bx:=bx) LD 4 (.bool (true))) A.1 A.2)
      clear L3 G3 T3
      generalize World.setCell LD ⟨bx,4,none⟩ _=W4 at*
      obtain⟨p0,p2,p5,p6,p7,q0,q1,q2,q3,q4,fz⟩:=T4.out.cs
      go_wp2_with fail
      all_goals exact⟨rfl,(by first | exact I.out.trans G.out | exact(I.out.trans G.out).set_new (by omega) _ _ | exact((I.out.trans G.out).set_new (by omega) _ _).set_new (by omega) _ _ | exact(((I.out.trans G.out).set_new (by omega) _ _).set_new (by omega) _ _).set_new (by omega) _ _ | exact((((I.out.trans G.out).set_new (by omega) _ _).set_new (by omega) _ _).set_new (by omega) _ _).set_new (by omega) _ _),.inr ⟨HX.out,rfl⟩⟩
 | true=>
   rw[af]at NC
   have ax:=AF af
   clear af
   cases ag:eK (bl h.name)with
   | false=>
     rw[ag]at MC
     have ab:Hid (gj h kd el (E&&r.isNil)=false):=by
      refine Bool.eq_false_iff.2 (λe=> ?_)
      have:=((hd5 h kd el _ ad.out).1 e).2.1
      rw[ag]at this
      cases this
     have HX:Hid (t.form E=false):=by unfold Hid;rw[<-HF.out,ah.out,ab.out];rfl
     clear ag
     go_wp2_with fail
     refine(NC.out _ ((Gr.alloc _ _).trans (Gr.alloc _ _))).mono ?_
     rintro e w1 ⟨rfl,V⟩
     have G1:Hid (Gr bx wr w1):=((Gr.alloc _ _).trans (Gr.alloc _ _)).trans (Gr.below V)
     have T1:Hid (Two wr.heap.size h (.slice an h.names.length cn) (.slice ak kd.len ck) (.slice ae el.len ce) kd el w1):=⟨(eC V).1,(eC V).2.1⟩
     have L1:Hid (Lk bx dv m D tw N w1):=HL.out.below ((((AH wr.heap.size wr).alloc (AG _) _).alloc (by simp) _).trans (V.mono (by simp;omega)))
     clear V g0 g1 g2 g3 g4 g5 g6 g7 NC
     obtain⟨p0,p2,p5,p6,p7,q0,q1,q2,q3,q4,fz⟩:=T1.out.cs
     go_upto_region 20 with(fail)
     refine(MC.out _).mono ?_
     rintro e w2 ⟨rfl,ac⟩
     have T2:=AF (T1.out.gr (Gr.below ac) A.1 A.2)
     have L2:=AF (L1.out.below ac)
     have G2:=AF (G1.out.trans (Gr.below (bx:=bx) ac))
     clear ac p0 p2 p5 p6 p7 q0 q1 q2 q3 q4 fz MC
     obtain⟨p0,p2,p5,p6,p7,q0,q1,q2,q3,q4,fz⟩:=T2.out.cs
     go_upto_region 20 with(fail)
     cases N with
     | false=>
       obtain⟨U,R,O,M,K,J⟩:=L2.out.cs
       go_region_with (go_at_call 48;refine(DC.out _ ((I.out.trans G2.out).trans (Gr.drew _))).mono ?_;rintro e w3 ⟨rfl,Z⟩;have L3:=AF ((L2.out.below (rC _ _)).below Z);have G3:=AF ((G2.out.trans (Gr.drew _)).trans (Gr.below (bx:=bx) Z));have T3:=AF ((T2.out.gr (Gr.drew (bx:=bx) _) A.1 A.2).gr (Gr.below (bx:=bx) Z) A.1 A.2);clear Z U R O M K J;obtain⟨U,R,O,M,K,J⟩:=L3.out.cs)
       all_goals
        clear U R O M K J
        have L4:=AF (L3.out.set4 (!eE ds (bl h.name)))
        have G:=AF (G3.out.trans (Gr.set (bx:=bx) w3 4 (.bool (!eE ds (bl h.name)))))
        have T4:=AF (T3.out.gr (Gr.set (bx:=bx) w3 4 (.bool (!eE ds (bl h.name)))) A.1 A.2)
        clear L3 G3 T3
        generalize World.setCell w3 ⟨bx,4,none⟩ _=W4 at*
        obtain⟨p0,p2,p5,p6,p7,q0,q1,q2,q3,q4,fz⟩:=T4.out.cs
        go_wp2_with fail
        all_goals exact⟨rfl,(by first | exact I.out.trans G.out | exact(I.out.trans G.out).set_new (by omega) _ _ | exact((I.out.trans G.out).set_new (by omega) _ _).set_new (by omega) _ _ | exact(((I.out.trans G.out).set_new (by omega) _ _).set_new (by omega) _ _).set_new (by omega) _ _ | exact((((I.out.trans G.out).set_new (by omega) _ _).set_new (by omega) _ _).set_new (by omega) _ _).set_new (by omega) _ _),.inr ⟨HX.out,rfl⟩⟩
     | true=>
       obtain⟨LD,Y⟩:∃W,w2.drew=W:=⟨_,rfl⟩
       have L3:Hid (Lk bx dv m D tw true LD):=by rw[<-Y];exact L2.out.below (rC _ _)
       have G3:Hid (Gr bx wr LD):=by rw[<-Y];exact G2.out.trans (Gr.drew _)
       have T3:Hid (Two wr.heap.size h (.slice an h.names.length cn) (.slice ak kd.len ck) (.slice ae el.len ce) kd el LD):=by rw[<-Y];exact T2.out.gr (Gr.drew (bx:=bx) _) A.1 A.2
       obtain⟨U,R,O,M,K,J⟩:=L3.out.cs
       go_region
       all_goals
        clear U R O M K J
        try rw[Y]
        clear Y
        have L4:=AF (L3.out.set4 (true))
        have G:=AF (G3.out.trans (Gr.set (bx:=bx) LD 4 (.bool (true))))
        have T4:=AF (T3.out.gr (Gr.set (bx:=bx) LD 4 (.bool (true))) A.1 A.2)
        clear L3 G3 T3
        generalize World.setCell LD ⟨bx,4,none⟩ _=W4 at*
        obtain⟨p0,p2,p5,p6,p7,q0,q1,q2,q3,q4,fz⟩:=T4.out.cs
        go_wp2_with fail
        all_goals exact⟨rfl,(by first | exact I.out.trans G.out | exact(I.out.trans G.out).set_new (by omega) _ _ | exact((I.out.trans G.out).set_new (by omega) _ _).set_new (by omega) _ _ | exact(((I.out.trans G.out).set_new (by omega) _ _).set_new (by omega) _ _).set_new (by omega) _ _ | exact((((I.out.trans G.out).set_new (by omega) _ _).set_new (by omega) _ _).set_new (by omega) _ _).set_new (by omega) _ _),.inr ⟨HX.out,rfl⟩⟩
   | true=>
     rw[ag]at MC
     have az:=AF ag
     clear ag
     go_wp2_with fail
     refine(NC.out _ ((Gr.alloc _ _).trans (Gr.alloc _ _))).mono ?_
     rintro e w1 ⟨rfl,V⟩
     have G1:Hid (Gr bx wr w1):=((Gr.alloc _ _).trans (Gr.alloc _ _)).trans (Gr.below V)
     have T1:Hid (Two wr.heap.size h (.slice an h.names.length cn) (.slice ak kd.len ck) (.slice ae el.len ce) kd el w1):=⟨(eC V).1,(eC V).2.1⟩
     have L1:Hid (Lk bx dv m D tw N w1):=HL.out.below ((((AH wr.heap.size wr).alloc (AG _) _).alloc (by simp) _).trans (V.mono (by simp;omega)))
     clear V g0 g1 g2 g3 g4 g5 g6 g7 NC
     obtain⟨p0,p2,p5,p6,p7,q0,q1,q2,q3,q4,fz⟩:=T1.out.cs
     go_upto_region 20 with(fail)
     refine(MC.out _).mono ?_
     rintro e w2 ⟨rfl,ac⟩
     have T2:=AF (T1.out.gr (Gr.below ac) A.1 A.2)
     have L2:=AF (L1.out.below ac)
     have G2:=AF (G1.out.trans (Gr.below (bx:=bx) ac))
     clear ac p0 p2 p5 p6 p7 q0 q1 q2 q3 q4 fz MC
     obtain⟨p0,p2,p5,p6,p7,q0,q1,q2,q3,q4,fz⟩:=T2.out.cs
     go_upto_region 20 with(fail)
     cases N with
     | false=>
       obtain⟨U,R,O,M,K,J⟩:=L2.out.cs
       go_region_with (go_at_call 48;refine(DC.out _ ((I.out.trans G2.out).trans (Gr.drew _))).mono ?_;rintro e w3 ⟨rfl,Z⟩;have L3:=AF ((L2.out.below (rC _ _)).below Z);have G3:=AF ((G2.out.trans (Gr.drew _)).trans (Gr.below (bx:=bx) Z));have T3:=AF ((T2.out.gr (Gr.drew (bx:=bx) _) A.1 A.2).gr (Gr.below (bx:=bx) Z) A.1 A.2);clear Z U R O M K J;obtain⟨U,R,O,M,K,J⟩:=L3.out.cs)
       all_goals
        clear U R O M K J
        have L4:=AF (L3.out.set4 (!eE ds (bl h.name)))
        have G:=AF (G3.out.trans (Gr.set (bx:=bx) w3 4 (.bool (!eE ds (bl h.name)))))
        have T4:=AF (T3.out.gr (Gr.set (bx:=bx) w3 4 (.bool (!eE ds (bl h.name)))) A.1 A.2)
        clear L3 G3 T3
        generalize World.setCell w3 ⟨bx,4,none⟩ _=W4 at*
        obtain⟨p0,p2,p5,p6,p7,q0,q1,q2,q3,q4,fz⟩:=T4.out.cs
        go_wp2_with fail
        all_goals first
        | (have ab:Hid (gj h kd el (E&&r.isNil)=true):=(hd5 h kd el _ ad.out).2 ⟨ax.out,az.out,by assumption,by assumption⟩
           have ao:((kd.len:Int)+(el.len:Int)=0):=by assumption
           have ap:=ad.out
           obtain⟨ek,ee⟩:=im ao
           have ar:Hid (Pt.form E r=t.form E):=by
            unfold Hid;rw[<-HF.out,ah.out,ab.out,aD.out];simp
           have au:Hid (max D (aa+r.deep)=max deep (aa+t.deep)):=by
            have:=aE.out
            simp only[Pt.deep]at this
            unfold Hid
            rw[if_neg aj]at this
            omega
           have aq:Hid (((!eE ds (bl h.name))|| !r.called ds)=(no|| !t.called ds)):=by
            unfold Hid
            rw[<-ay.out,ek,ee]
            simp[Pt.called,ap]
           have al:m+r.cnt=many+t.cnt+r.len:=by have ai:=aA.out;rw[ek,ee]at ai;simp only[Pt.cnt]at ai;omega
           clear ab
           go_roundw
           case rel=>exact⟨k+1,m,D,(!eE ds (bl h.name)),r,by go_num,(by have:=aC.out;omega),(by unfold Hid;(first | exact L4.out | exact(L4.out).other A.2 _ _ | exact((L4.out).other A.2 _ _).other A.2 _ _ | exact(((L4.out).other A.2 _ _).other A.2 _ _).other A.2 _ _ | exact((((L4.out).other A.2 _ _).other A.2 _ _).other A.2 _ _).other A.2 _ _)),(by unfold Hid;(first | exact I.out.trans G.out | exact(I.out.trans G.out).set_new (by omega) _ _ | exact((I.out.trans G.out).set_new (by omega) _ _).set_new (by omega) _ _ | exact(((I.out.trans G.out).set_new (by omega) _ _).set_new (by omega) _ _).set_new (by omega) _ _ | exact((((I.out.trans G.out).set_new (by omega) _ _).set_new (by omega) _ _).set_new (by omega) _ _).set_new (by omega) _ _)),av,aw.out.2.2,al,by omega,by omega,au.out,aq,ar⟩
           case measure=>simp[intOf];omega)
        | (have ab:Hid (gj h kd el (E&&r.isNil)=false):=by
            refine Bool.eq_false_iff.2 (λe=> ?_)
            obtain⟨-,-,x0,x1⟩:=(hd5 h kd el _ ad.out).1 e
            first | exact absurd x0 (by assumption) | exact absurd x1 (by assumption)
           have HX:Hid (t.form E=false):=by unfold Hid;rw[<-HF.out,ah.out,ab.out];rfl
           exact⟨rfl,(by first | exact I.out.trans G.out | exact(I.out.trans G.out).set_new (by omega) _ _ | exact((I.out.trans G.out).set_new (by omega) _ _).set_new (by omega) _ _ | exact(((I.out.trans G.out).set_new (by omega) _ _).set_new (by omega) _ _).set_new (by omega) _ _ | exact((((I.out.trans G.out).set_new (by omega) _ _).set_new (by omega) _ _).set_new (by omega) _ _).set_new (by omega) _ _),.inr ⟨HX.out,rfl⟩⟩)
     | true=>
       obtain⟨LD,Y⟩:∃W,w2.drew=W:=⟨_,rfl⟩
       have L3:Hid (Lk bx dv m D tw true LD):=by rw[<-Y];exact L2.out.below (rC _ _)
       have G3:Hid (Gr bx wr LD):=by rw[<-Y];exact G2.out.trans (Gr.drew _)
       have T3:Hid (Two wr.heap.size h (.slice an h.names.length cn) (.slice ak kd.len ck) (.slice ae el.len ce) kd el LD):=by rw[<-Y];exact T2.out.gr (Gr.drew (bx:=bx) _) A.1 A.2
       obtain⟨U,R,O,M,K,J⟩:=L3.out.cs
       go_region
       all_goals
        clear U R O M K J
        try rw[Y]
        clear Y
        have L4:=AF (L3.out.set4 (true))
        have G:=AF (G3.out.trans (Gr.set (bx:=bx) LD 4 (.bool (true))))
        have T4:=AF (T3.out.gr (Gr.set (bx:=bx) LD 4 (.bool (true))) A.1 A.2)
        clear L3 G3 T3
        generalize World.setCell LD ⟨bx,4,none⟩ _=W4 at*
        obtain⟨p0,p2,p5,p6,p7,q0,q1,q2,q3,q4,fz⟩:=T4.out.cs
        go_wp2_with fail
        all_goals first
        | (have ab:Hid (gj h kd el (E&&r.isNil)=true):=(hd5 h kd el _ ad.out).2 ⟨ax.out,az.out,by assumption,by assumption⟩
           have ao:((kd.len:Int)+(el.len:Int)=0):=by assumption
           have ap:=ad.out
           obtain⟨ek,ee⟩:=im ao
           have ar:Hid (Pt.form E r=t.form E):=by
            unfold Hid;rw[<-HF.out,ah.out,ab.out,aD.out];simp
           have au:Hid (max D (aa+r.deep)=max deep (aa+t.deep)):=by
            have:=aE.out
            simp only[Pt.deep]at this
            unfold Hid
            rw[if_neg aj]at this
            omega
           have aq:Hid (((true)|| !r.called ds)=(no|| !t.called ds)):=by
            unfold Hid
            rw[<-ay.out,ek,ee]
            simp[Pt.called,ap]
           have al:m+r.cnt=many+t.cnt+r.len:=by have ai:=aA.out;rw[ek,ee]at ai;simp only[Pt.cnt]at ai;omega
           clear ab
           go_roundw
           case rel=>exact⟨k+1,m,D,(true),r,by go_num,(by have:=aC.out;omega),(by unfold Hid;(first | exact L4.out | exact(L4.out).other A.2 _ _ | exact((L4.out).other A.2 _ _).other A.2 _ _ | exact(((L4.out).other A.2 _ _).other A.2 _ _).other A.2 _ _ | exact((((L4.out).other A.2 _ _).other A.2 _ _).other A.2 _ _).other A.2 _ _)),(by unfold Hid;(first | exact I.out.trans G.out | exact(I.out.trans G.out).set_new (by omega) _ _ | exact((I.out.trans G.out).set_new (by omega) _ _).set_new (by omega) _ _ | exact(((I.out.trans G.out).set_new (by omega) _ _).set_new (by omega) _ _).set_new (by omega) _ _ | exact((((I.out.trans G.out).set_new (by omega) _ _).set_new (by omega) _ _).set_new (by omega) _ _).set_new (by omega) _ _)),av,aw.out.2.2,al,by omega,by omega,au.out,aq,ar⟩
           case measure=>simp[intOf];omega)
        | (have ab:Hid (gj h kd el (E&&r.isNil)=false):=by
            refine Bool.eq_false_iff.2 (λe=> ?_)
            obtain⟨-,-,x0,x1⟩:=(hd5 h kd el _ ad.out).1 e
            first | exact absurd x0 (by assumption) | exact absurd x1 (by assumption)
           have HX:Hid (t.form E=false):=by unfold Hid;rw[<-HF.out,ah.out,ab.out];rfl
           exact⟨rfl,(by first | exact I.out.trans G.out | exact(I.out.trans G.out).set_new (by omega) _ _ | exact((I.out.trans G.out).set_new (by omega) _ _).set_new (by omega) _ _ | exact(((I.out.trans G.out).set_new (by omega) _ _).set_new (by omega) _ _).set_new (by omega) _ _ | exact((((I.out.trans G.out).set_new (by omega) _ _).set_new (by omega) _ _).set_new (by omega) _ _).set_new (by omega) _ _),.inr ⟨HX.out,rfl⟩⟩)
end Go.Proofs.YtepcpgdfbaklfaaGreatDoor
