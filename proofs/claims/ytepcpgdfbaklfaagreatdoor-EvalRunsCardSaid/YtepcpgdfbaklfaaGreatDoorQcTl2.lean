/- (*tmpl.look).parts at a part: kinds of class 2. The condition: as XTlk's. -/
import Derived.Test.YtepcpgdfbaklfaaGreatDoorQcTl0
set_option maxRecDepth 100000
set_option maxHeartbeats 40000000
set_option linter.unusedVariables false
namespace Go.Proofs.YtepcpgdfbaklfaaGreatDoor
open Go.RowKit Go.Shelf
attribute [local go_sem ↓] Go.wp_at_zero Go.wp_at_succ
theorem uM (B bx:Nat)(am:B<=bx)(az:Hid (GlB B))(ds:List Df)(aj:ds.length<=16777216)(Z:Value)(n:Nat)(IH:Hid (g8 B bx ds Z n))(t:Pt)(hn:t.cnt<n+1)(I:Nat)(A:Bool)(c many deep:Nat)(tw no:Bool)(w:World)
 (ap:Hid t.sm) (hm:many+t.cnt<=16777216) (hd:I+t.cnt<=16777216) (ai:deep<=16777216) (aA:Hid (Gd w)) (aD:Hid (fU (·<B) w Z ds)) (h1:t.len<=c) (h2:c<=maxLen) (ac:Hid (Lk bx Z many deep tw no w)) (b o:Nat)
 (af:t.len<=t.cnt) (al:t.deep<=t.cnt):(fy B bx am az ds aj Z n IH t hn I A c many deep tw no w ap hm hd ai aA aD h1 h2 ac b o af al).1 2:=by
 unfold fy
 intro wr u8 u9 cK cJ cI cH cG cF cE cD cC cB cA cz cy cw cv cu ct cr cq cp co cm cj ci ch cg cd cc cb ca b8 b7 b6 b5 b4 b3 b2 b1 b0 bZ bY bX bW bU bT bS bR bQ bP bO bN bM bL bK bJ bI bH bG bF bE bD bC bB bA u95 bz bw bv bu bn bm bk bj bi bh bg bf be bd bc ba a8 a7 a6 aZ aY aX aW aV aU aT aS aR aQ aP aO aN aM aL aK aJ aI aH aG aF k m D N HL K hD h R U r cW au HF aC cX bt g0 g1 g2 g3 g5 ak ck g6 k1 k2 ae ce g7 e1 e2 cY cL cS cT cU cP cR cN br bq bp bo s0 s1 s2 s3 PK PE aq ao G an cn g4 NC n1 n2 GW DW Y cQ ax aw cO cM hu
 have bs:=ac.out.lt
 have V:h.kind=2:=(kT hu).2.1 rfl
 have f1:((h.kind:Int)==1)=false:=beq_eq_false_iff_ne.2 (by omega)
 have f3:((h.kind:Int)==3)=false:=beq_eq_false_iff_ne.2 (by omega)
 have f4:((h.kind:Int)==4)=false:=beq_eq_false_iff_ne.2 (by omega)
 have f5:((h.kind:Int)==5)=false:=beq_eq_false_iff_ne.2 (by omega)
 have f2:((h.kind:Int)==2)=true:=by rw[V];rfl
 have W:=AF V
 have ay:Hid ((if h.kind=3\/h.kind=4 then Pt.form false R&&Pt.form false U else true)=true):=if_neg (by omega)
 have ah:h.kind≠5:=by omega
 have ab:¬(h.kind=3\/h.kind=4):=by omega
 clear V hu
 cases M:ex (bls h.names)with
 | false=>
   have O:Hid (gj h R U (A&&r.isNil)=false):=by
    refine Bool.eq_false_iff.2 (λe=> ?_)
    have:=(hd2 h R U (A&&r.isNil) W.out).1 e
    rw[M]at this
    simp at this
   have HX:Hid (t.form A=false):=by unfold Hid;rw[<-HF.out,Y.out,O.out];rfl
   rw[M]at NC
   clear M
   go_wp2_with fail
   refine(NC.out _ ((Gr.alloc _ _).trans (Gr.alloc _ _))).mono ?_
   rintro e w1 ⟨rfl,E⟩
   have J:Hid (Gr bx wr w1):=((Gr.alloc _ _).trans (Gr.alloc _ _)).trans (Gr.below E)
   have T1:Hid (Two wr.heap.size h (.slice an h.names.length cn) (.slice ak R.len ck) (.slice ae U.len ce) R U w1):=⟨(eC E).1,(eC E).2.1⟩
   have L1:Hid (Lk bx Z m D tw N w1):=HL.out.below ((((AH wr.heap.size wr).alloc (AG _) _).alloc (by simp) _).trans (E.mono (by simp;omega)))
   clear E g0 g1 g2 g3 g4 g5 g6 g7 NC
   obtain⟨p0,p2,p5,p6,p7,q0,q1,q2,q3,q4,fz⟩:=T1.out.cs
   go_wp2_with fail
   exact⟨rfl,(by first | exact K.out.trans J.out | exact(K.out.trans J.out).set_new (by omega) _ _ | exact((K.out.trans J.out).set_new (by omega) _ _).set_new (by omega) _ _ | exact(((K.out.trans J.out).set_new (by omega) _ _).set_new (by omega) _ _).set_new (by omega) _ _ | exact((((K.out.trans J.out).set_new (by omega) _ _).set_new (by omega) _ _).set_new (by omega) _ _).set_new (by omega) _ _),.inr ⟨HX.out,rfl⟩⟩
 | true=>
   have ar:=AF M
   rw[M]at NC
   clear M
   go_wp2_with fail
   refine(NC.out _ ((Gr.alloc _ _).trans (Gr.alloc _ _))).mono ?_
   rintro e w1 ⟨rfl,E⟩
   have J:Hid (Gr bx wr w1):=((Gr.alloc _ _).trans (Gr.alloc _ _)).trans (Gr.below E)
   have T1:Hid (Two wr.heap.size h (.slice an h.names.length cn) (.slice ak R.len ck) (.slice ae U.len ce) R U w1):=⟨(eC E).1,(eC E).2.1⟩
   have L1:Hid (Lk bx Z m D tw N w1):=HL.out.below ((((AH wr.heap.size wr).alloc (AG _) _).alloc (by simp) _).trans (E.mono (by simp;omega)))
   clear E g0 g1 g2 g3 g4 g5 g6 g7 NC
   obtain⟨p0,p2,p5,p6,p7,q0,q1,q2,q3,q4,fz⟩:=T1.out.cs
   go_wp2_with fail
   all_goals first
   | (have O:Hid (gj h R U (A&&r.isNil)=true):=(hd2 h R U (A&&r.isNil) W.out).2 ⟨ar.out,by assumption,by assumption,by assumption⟩
      have ag:((R.len:Int)+(U.len:Int)=0):=by assumption
      obtain⟨ek,ee⟩:=im ag
      have aB:Hid (Pt.form A r=t.form A):=by
       unfold Hid;rw[<-HF.out,Y.out,O.out,ay.out];simp
      have aE:Hid (max D (I+r.deep)=max deep (I+t.deep)):=by
       have:=aC.out
       simp only[Pt.deep]at this
       unfold Hid
       rw[if_neg ab]at this
       omega
      have av:Hid ((N|| !r.called ds)=(no|| !t.called ds)):=by
       unfold Hid
       rw[<-au.out,ek,ee]
       simp[Pt.called,ah]
      have ad:m+r.cnt=many+t.cnt+r.len:=by have aa:=aw.out;rw[ek,ee]at aa;simp only[Pt.cnt]at aa;omega
      clear O
      go_roundw
      case rel=>exact⟨k+1,m,D,N,r,by go_num,(by have:=ax.out;omega),(by unfold Hid;(first | exact L1.out | exact(L1.out).other G.2 _ _ | exact((L1.out).other G.2 _ _).other G.2 _ _ | exact(((L1.out).other G.2 _ _).other G.2 _ _).other G.2 _ _ | exact((((L1.out).other G.2 _ _).other G.2 _ _).other G.2 _ _).other G.2 _ _)),(by unfold Hid;(first | exact K.out.trans J.out | exact(K.out.trans J.out).set_new (by omega) _ _ | exact((K.out.trans J.out).set_new (by omega) _ _).set_new (by omega) _ _ | exact(((K.out.trans J.out).set_new (by omega) _ _).set_new (by omega) _ _).set_new (by omega) _ _ | exact((((K.out.trans J.out).set_new (by omega) _ _).set_new (by omega) _ _).set_new (by omega) _ _).set_new (by omega) _ _)),ao,aq.out.2.2,ad,by omega,by omega,aE.out,av,aB⟩
      case measure=>simp[intOf];omega)
   | (have O:Hid (gj h R U (A&&r.isNil)=false):=by
       refine Bool.eq_false_iff.2 (λe=> ?_)
       obtain⟨-,x0,x1,x2⟩:=(hd2 h R U (A&&r.isNil) W.out).1 e
       first | exact absurd x0 (by assumption) | exact absurd x1 (by assumption) | exact absurd x2 (by assumption)
      have HX:Hid (t.form A=false):=by unfold Hid;rw[<-HF.out,Y.out,O.out];rfl
      exact⟨rfl,(by first | exact K.out.trans J.out | exact(K.out.trans J.out).set_new (by omega) _ _ | exact((K.out.trans J.out).set_new (by omega) _ _).set_new (by omega) _ _ | exact(((K.out.trans J.out).set_new (by omega) _ _).set_new (by omega) _ _).set_new (by omega) _ _ | exact((((K.out.trans J.out).set_new (by omega) _ _).set_new (by omega) _ _).set_new (by omega) _ _).set_new (by omega) _ _),.inr ⟨HX.out,rfl⟩⟩)
theorem uO (B bx:Nat)(ah:B<=bx)(al:Hid (GlB B))(U:List Df)(af:U.length<=16777216)(I:Value)(n:Nat)(IH:Hid (g8 B bx U I n))(t:Pt)(hn:t.cnt<n+1)(G:Nat)(E:Bool)(c many deep:Nat)(tw no:Bool)(w:World)
 (ai:Hid t.sm) (hm:many+t.cnt<=16777216) (hd:G+t.cnt<=16777216) (ad:deep<=16777216) (am:Hid (Gd w)) (ap:Hid (fU (·<B) w I U)) (h1:t.len<=c) (h2:c<=maxLen) (J:Hid (Lk bx I many deep tw no w)) (b o:Nat)
 (ab:t.len<=t.cnt) (ag:t.deep<=t.cnt):(fy B bx ah al U af I n IH t hn G E c many deep tw no w ai hm hd ad am ap h1 h2 J b o ab ag).1 0:=by
 unfold fy
 intro wr u8 u9 cw cv cu ct cr cq cp co cm cj ci ch cg cd cc cb ca b8 b7 b6 b5 b4 b3 b2 b1 b0 bZ bY bX bW bU bT bS bR bQ bP bO bN bM bL bK bJ bI bH bG bF bE bD bC bB bA bz bw bv bu bt bs br bq bp bo bn bm bk u95 bj bi bh bg a7 a6 aZ aY aX aW aV aU aT aS aR aQ aP aO aN aM aL aK aJ aI aH aG aF aE aD aC aB aA az ay ax aw av au ar aq k m D N HL K hD h O R r cI cO HF cR cJ bf g0 g1 g2 g3 g5 ak ck g6 k1 k2 ae ce g7 e1 e2 cM cy cF cG cH cC cE cA bd bc ba a8 s0 s1 s2 s3 PK PE cL cK cN an cn g4 NC n1 n2 GW DW ao cD cQ cP cB cz hu
 have be:=J.out.lt
 have ac:=(kT hu).2.2.2.2 rfl
 obtain⟨aa,Z,Y,W,V⟩:=ac
 have f1:((h.kind:Int)==1)=false:=beq_eq_false_iff_ne.2 (by omega)
 have f3:((h.kind:Int)==3)=false:=beq_eq_false_iff_ne.2 (by omega)
 have f4:((h.kind:Int)==4)=false:=beq_eq_false_iff_ne.2 (by omega)
 have f5:((h.kind:Int)==5)=false:=beq_eq_false_iff_ne.2 (by omega)
 have f2:((h.kind:Int)==2)=false:=beq_eq_false_iff_ne.2 (by omega)
 have aj:Hid (gj h O R (E&&r.isNil)=false):=hd0 h O R _ ⟨aa,Z,Y,W,V⟩
 have HX:Hid (t.form E=false):=by unfold Hid;rw[<-HF.out,ao.out,aj.out];rfl
 clear hu
 go_wp2_with fail
 refine(NC.out _ ((Gr.alloc _ _).trans (Gr.alloc _ _))).mono ?_
 rintro e w1 ⟨rfl,A⟩
 have M:Hid (Gr bx wr w1):=((Gr.alloc _ _).trans (Gr.alloc _ _)).trans (Gr.below A)
 have T1:Hid (Two wr.heap.size h (.slice an h.names.length cn) (.slice ak O.len ck) (.slice ae R.len ce) O R w1):=⟨(eC A).1,(eC A).2.1⟩
 have L1:Hid (Lk bx I m D tw N w1):=HL.out.below ((((AH wr.heap.size wr).alloc (AG _) _).alloc (by simp) _).trans (A.mono (by simp;omega)))
 clear A g0 g1 g2 g3 g4 g5 g6 g7 NC
 obtain⟨p0,p2,p5,p6,p7,q0,q1,q2,q3,q4,fz⟩:=T1.out.cs
 go_wp2_with fail
 all_goals exact⟨rfl,(by first | exact K.out.trans M.out | exact(K.out.trans M.out).set_new (by omega) _ _ | exact((K.out.trans M.out).set_new (by omega) _ _).set_new (by omega) _ _ | exact(((K.out.trans M.out).set_new (by omega) _ _).set_new (by omega) _ _).set_new (by omega) _ _ | exact((((K.out.trans M.out).set_new (by omega) _ _).set_new (by omega) _ _).set_new (by omega) _ _).set_new (by omega) _ _),.inr ⟨HX.out,rfl⟩⟩
end Go.Proofs.YtepcpgdfbaklfaaGreatDoor
