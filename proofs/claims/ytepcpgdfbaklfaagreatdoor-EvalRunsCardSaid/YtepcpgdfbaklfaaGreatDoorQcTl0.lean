/- The contract of (*tmpl.look).parts. The condition: the sizes that templates of at most 2 to the 24th bytes have; MaxLen holds some number; the tables of unicode/utf8 read as they were laid. -/
import Derived.Test.YtepcpgdfbaklfaaGreatDoorQcLibv
set_option maxRecDepth 100000
set_option maxHeartbeats 40000000
set_option linter.unusedVariables false
namespace Go.Proofs.YtepcpgdfbaklfaaGreatDoor
open Go.RowKit Go.Shelf
attribute [local go_sem ↓] Go.wp_at_zero Go.wp_at_succ
theorem sZ (m:Bool)(h:Hd)(k e r:Pt):Pt.form m (.cons h k e r)=(gj h k e (m&&r.isNil)&&(if h.kind=3\/h.kind=4 then Pt.form false k&&Pt.form false e else true)&&Pt.form m r):=rfl
theorem sW (t:Pt):t.isNil=decide (t.len=0):=by cases t <;> simp[Pt.isNil,Pt.len]
theorem im {k e:Pt}(h:(k.len:Int)+(e.len:Int)=0):k=.nil/\e=.nil:=by
 obtain⟨o,m⟩:=(nl k e).2 h
 exact⟨(nW k).1 o,(nW e).1 m⟩
def g8 (B bx:Nat) (E:List Df) (r:Value) (n:Nat):Prop:=∀(t:Pt),t.cnt<n->∀(m:Nat) (o:Bool) (v:Value) (many deep:Nat) (tw A:Bool) (w:World),
    t.sm->many+t.cnt<=16777216->m+t.cnt<=16777216->deep<=16777216->Gd w->fU (·<B) w r E->
    d8 (·<B) w v t->Lk bx r many deep tw A w->
    Calls Tryz.prog 38 #[.pointer (some ⟨bx,0,none⟩),v,.int .i64 m,.bool o] w (qI bx r (many+t.cnt) (max deep (m+t.deep)) tw (A|| !t.called E) (t.form o) w)
def sL (k:Nat):Nat:=if k=1 then 1 else if k=2 then 2 else if k=3\/k=4 then 3 else if k=5 then 5 else 0
theorem sK (k:Nat):sL k∈[0,1,2,3,5]:=by
  unfold sL;repeat' split
  all_goals decide
theorem kT {k q:Nat}(h:sL k=q):(q=1->k=1)/\(q=2->k=2)/\(q=3->k=3\/k=4)/\(q=5->k=5)/\(q=0->k≠1/\k≠2/\k≠3/\k≠4/\k≠5):=by
 unfold sL at h
 (repeat' split at h) <;> (refine⟨?_,?_,?_,?_,?_⟩ <;> intro e <;> omega)
noncomputable def fy (B bx:Nat)(R:B<=bx)(aO:Hid (GlB B))(ds:List Df)(aV:ds.length<=16777216)(dv:Value)(n:Nat)(IH:Hid (g8 B bx ds dv n))(t:Pt)(hn:t.cnt<n+1)(A:Nat)(E:Bool)(c many deep:Nat)(tw no:Bool)(w:World)
 (aJ:Hid t.sm) (hm:many+t.cnt<=16777216) (hd:A+t.cnt<=16777216) (aU:deep<=16777216) (aP:Hid (Gd w)) (aR:Hid (fU (·<B) w dv ds)) (h1:t.len<=c) (h2:c<=maxLen) (ad:Hid (Lk bx dv many deep tw no w)) (b o:Nat) (aS:t.len<=t.cnt) (aW:t.deep<=t.cnt):
 PSigma λP:Nat->Prop=>∀(a:Option Addr) (HR:Hid (t≠.nil->a=some ⟨b,o,none⟩/\b<B/\Row (·<B) w t b o)),(∀u,u∈[0,1,2,3,5]->P u)->Calls Tryz.prog 38 #[.pointer (some ⟨bx,0,none⟩),.slice a t.len c,.int .i64 A,.bool E] w (qI bx dv (many+t.cnt) (max deep (A+t.deep)) tw (no|| !t.called ds) (t.form E) w):=by
 refine⟨?P,λa HR aw=> ?main⟩
 case main=>
  have K:=ad.out.lt
  obtain⟨c0,c1,c2,c3,c4,fz⟩:=ad.out.cs
  go_enter Tryz.func38,Tryz.ntmps38
  go_wp2_with fail
  have aq:=AF ((ad.out.set1 ((many:Int)+t.len)).set2 (max (deep:Int) A))
  have ar:Hid (Gr bx w ((w.setCell ⟨bx,1,none⟩ (.int .i64 ((many:Int)+t.len))).setCell ⟨bx,2,none⟩ (.int .i64 (max (deep:Int) A)))):=(Gr.set _ _ _).trans (Gr.set _ _ _)
  generalize aH:World.setCell _ _ _=W1 at*
  clear aH c0 c1 c2 c3 c4 fz
  go_loopw [32] (λi wr=>∃(k m D:Nat) (N:Bool) (I:Pt),i=.int .i64 k/\k+I.len=t.len/\Hid (Lk bx dv m D tw N wr)/\Hid (Gr bx w wr)/\Hid (I≠.nil->a=some ⟨b,o,none⟩/\b<B/\Row (·<B) w I b (o+k*8))/\
   Hid I.sm/\m+I.cnt=many+t.cnt+I.len/\I.cnt<=t.cnt/\A<=D/\max D (A+I.deep)=max deep (A+t.deep)/\Hid ((N|| !I.called ds)=(no|| !t.called ds))/\Hid (I.form E=t.form E)) (λi _=>t.len - (intOf i).toNat)
  case atStart=>
   refine⟨0,many+t.len,max deep A,no,t,rfl,by omega,?_,ar,HR,aJ,by omega,AG _,by omega,by omega,rfl,rfl⟩
   have:=aq.out
   unfold Hid
   rw[show((many+t.len:Nat):Int)=(many:Int)+t.len by omega,show((max deep A:Nat):Int)=max (deep:Int) A by omega]
   exact this
  case round=>
   obtain⟨k,m,D,N,I,rfl,hk,HL,HG,am,HS,G,al,hD,av,ap,HF⟩:=hrel
   have au:=AF av
   clear av aq ar
   cases I with
   | nil=>
     simp only[Pt.len]at hk G
     simp only[Pt.cnt]at G
     have aT:¬(k:Int)<(t.len:Int):=by omega
     have HE:Hid (m=many+t.cnt/\D=max deep (A+t.deep)/\N=(no|| !t.called ds)/\t.form E=true):=by
      refine⟨by omega,?_,?_,HF.out.symm⟩
      · have:=au.out;simp only[Pt.deep]at this;omega
      · have:=ap.out;simpa[Pt.called]using this
     go_wp2_with fail
     go_end0
     obtain⟨e1,e2,e3,e4⟩:=HE.out
     have q1:=HL.out
     have q2:=HG.out
     rw[e1,e2,e3]at q1
     exact⟨q2,.inl ⟨e4,rfl,q1⟩⟩
   | cons h M O r=>
     obtain⟨rfl,ac,J⟩:=am.out (by simp)
     have aa:=AI K HG.out.size
     have ab:=Row.kept (HG.out.keptB R K) _ _ _ ac J
     obtain⟨⟨g0,g1,g2,g3,⟨vn,g4,U⟩,g5⟩,⟨ak,ck,g6,k1,k2,k3⟩,⟨ae,ce,g7,e1,e2,e3⟩,-⟩:=ab
     have ao:=AF J.2.2.2
     simp only[Pt.len]at hk G
     simp only[Pt.cnt]at G al
     have ax:=eD r
     have aE:=fY r
     have aF:=fY M
     have aG:=fY O
     have aB:=eD M
     have aD:=eD O
     have az:(k:Int)<(t.len:Int):=by omega
     have aj:(M.len:Int)<=16777216:=by omega
     have ai:(O.len:Int)<=16777216:=by omega
     have ah:(0:Int)<=(M.len:Int):=by omega
     have ag:(0:Int)<=(O.len:Int):=by omega
     obtain⟨af,Y,Z,V⟩:=HS.out
     obtain⟨s0,s1,s2,s3,s4⟩:=af
     have PK:Hid (d8 (·<B) wr (.slice ak M.len ck) M):=⟨ak,ck,rfl,k1,k2,k3⟩
     have PE:Hid (d8 (·<B) wr (.slice ae O.len ce) O):=⟨ae,ce,rfl,e1,e2,e3⟩
     have NC:Hid (∀W,Gr bx wr W->Calls Tryz.prog 63 #[vn] W λe w'=>e=.returned (.bool (ex (bls h.names)))/\Below W.heap.size W w'):=λW hW=>
      kR (·<B) h.names (by omega) (λs hs=>by have:=s4 s hs;omega) vn W (U.kept (hW.keptB R aa)) (λb hb=>by have:=hW.size;have aX:b<B:=hb;omega)
     have aK:Hid (M.sm/\O.sm/\r.sm):=⟨Y,Z,V⟩
     have aI:Hid (r≠.nil->some (⟨b,o,none⟩:Addr)=some ⟨b,o,none⟩/\b<B/\Row (·<B) w r b (o+(k+1)*8)):=λ_=>⟨rfl,ac,by have:=ao.out;rwa[show o+k*8+8=o+(k+1)*8 by omega]at this⟩
     have aL:wr.heap.size≠bx/\wr.heap.size+1≠bx:=⟨by omega,by omega⟩
     obtain⟨an,cn,rfl,n1,n2,-⟩:=U
     have GW:Hid (∀W,Gr bx w W->Gd W):=λW hW=>aP.out.belowB aO.out (hW.to_below (by omega) R)
     have DW:Hid (∀W,Gr bx w W->fU (·<B) W dv ds):=λW hW=>aR.out.kept (hW.keptB R K)
     have aQ:=AF (sZ E h M O r)
     have aC:=HG.out.size
     have aN:=AF hk
     have aM:=AF G
     have aA:k+1+r.len<=t.len:=by omega
     have ay:m+M.cnt+O.cnt+r.cnt<=many+t.cnt+r.len:=by omega
     clear J k3 e3 Y Z V s4 hk G
     clear W1 HS am HR
     obtain⟨u,hu⟩:∃u:Nat,sL h.kind=u:=⟨_,rfl⟩
     have HC:=aw u (hu ▸ sK _)
     clear aw
     revert wr u8 u9 u10 u11 u33 u34 u35 u36 u37 u38 u39 u40 u41 u42 u43 u44 u45 u46 u47 u48 u49 u50 u51 u52 u53 u54 u55 u56 u57 u58 u59 u60 u61 u62 u63 u64 u65 u66 u67 u68 u69 u70 u71 u72 u73 u74 u75 u76 u77 u78 u79 u80 u81 u82 u83 u84 u85 u86 u87 u88 u89 u90 u91 u92 u93 u94 u95 u96 u97 u98 u99 u100 u101 u102 u103 u104 u105 u106 u107 u108 u109 u110 u111 u112 u113 u114 u115 u116 u117 u118 u119 u120 u121 u122 u123 u124 u125 u126 u127 u128 u129 u130 u131 u132 u133 u134 u135 k m D N HL HG hD h M O r ap HF au ac aa ak ck k1 k2 ae ce e1 e2 ao ax aE aF aG aB aD az aj ai ah ag s0 s1 s2 s3 PK PE aK aL an cn n1 n2 NC GW DW aQ aC aN aM aA ay al g0 g1 g2 g3 g4 g5 g6 g7 aI hu
     exact HC
theorem uN (B bx:Nat)(aD:B<=bx)(aF:Hid (GlB B))(ds:List Df)(aB:ds.length<=16777216)(dv:Value)(n:Nat)(IH:Hid (g8 B bx ds dv n))(t:Pt)(hn:t.cnt<n+1)(M:Nat)(ad:Bool)(c many deep:Nat)(tw no:Bool)(w:World)
 (aE:Hid t.sm) (hm:many+t.cnt<=16777216) (hd:M+t.cnt<=16777216) (aA:deep<=16777216) (aG:Hid (Gd w)) (aH:Hid (fU (·<B) w dv ds)) (h1:t.len<=c) (h2:c<=maxLen) (aw:Hid (Lk bx dv many deep tw no w)) (b o:Nat)
 (az:t.len<=t.cnt) (aC:t.deep<=t.cnt):(fy B bx aD aF ds aB dv n IH t hn M ad c many deep tw no w aE hm hd aA aG aH h1 h2 aw b o az aC).1 1:=by
 unfold fy
 intro wr u8 u9 cO cN cM cL cK cJ cI cH cG cF cE cD cC cB cA cz cy cw cv cu ct cr cq cp co cm cj ci ch cg cd cc cb ca b8 b7 b6 b5 b4 b3 b2 b1 b0 bZ bY bX bW bU bT bS bR bQ bP bO bN bM bL bK bJ bI bH bG bF bE u95 bD bC bB bA bq bp bo bn bm bk bj bi bh bg bf be bd bc ba a8 a7 a6 aZ aY aX aW aV aU aT aS aR aQ aP aO aN aM aL aK aJ aI k m D N HL I hD h R U r c8 au HF ay da bw g0 g1 g2 g3 g5 ak ck g6 k1 k2 ae ce g7 e1 e2 db cP cY cZ c7 cU cX cS bu bt bs br s0 s1 s2 s3 PK PE ar aq A an cn g4 NC n1 n2 GW DW aa cW al av cT cQ hu
 have bv:=aw.out.lt
 have ag:h.kind=1:=(kT hu).1 rfl
 have f1:((h.kind:Int)==1)=true:=by rw[ag];rfl
 have Z:=AF ag
 have ax:Hid ((if h.kind=3\/h.kind=4 then Pt.form false R&&Pt.form false U else true)=true):=if_neg (by omega)
 have ap:h.kind≠5:=by omega
 have ac:¬(h.kind=3\/h.kind=4):=by omega
 clear ag hu
 obtain⟨q,hq⟩:∃q:Int,(t.len:Int)+ -1=q:=⟨_,rfl⟩
 have cR:t.len<=16777216:=by omega
 have wl:IntKind.i64.wrap ((t.len:Int)+ -1)=q:=by rw[IntWalk.i64_in _ (by omega)];exact hq
 have bz:IntKind.i64.wrap ((t.len:Int) - 1)=q:=by rw[IntWalk.i64_in _ (by omega)];omega
 have fq:((k:Int)==q)=r.isNil:=by
  rw[sW]
  have:=al.out
  by_cases hr:r.len=0
  · rw[decide_eq_true hr];exact beq_iff_eq.2 (by omega)
  · rw[decide_eq_false hr];exact beq_eq_false_iff_ne.2 (by omega)
 clear hq
 cases ad with
 | false=>
   have V:Hid (∀W,Gd W->Calls Tryz.prog 64 #[.string h.text,.bool false] W λe w'=>e=.returned (.bool (jZ (bl h.text) (false&&r.isNil)))/\Below W.heap.size W w'):=λW hW=>nR h.text (false&&r.isNil) s1 W hW
   cases K:jZ (bl h.text) (false&&r.isNil)with
   | false=>
     rw[K]at V
     have O:Hid (gj h R U (false&&r.isNil)=false):=by
      refine Bool.eq_false_iff.2 (λe=> ?_)
      have:=((hd1 h R U _ Z.out).1 e).1
      rw[K]at this
      cases this
     have HX:Hid (t.form false=false):=by unfold Hid;rw[<-HF.out,aa.out,O.out];rfl
     clear K
     go_wp2_with fail
     refine(NC.out _ ((Gr.alloc _ _).trans (Gr.alloc _ _))).mono ?_
     rintro e w1 ⟨rfl,E⟩
     have G1:Hid (Gr bx wr w1):=((Gr.alloc _ _).trans (Gr.alloc _ _)).trans (Gr.below E)
     have T1:Hid (Two wr.heap.size h (.slice an h.names.length cn) (.slice ak R.len ck) (.slice ae U.len ce) R U w1):=⟨(eC E).1,(eC E).2.1⟩
     have L1:Hid (Lk bx dv m D tw N w1):=HL.out.below ((((AH wr.heap.size wr).alloc (AG _) _).alloc (by simp) _).trans (E.mono (by simp;omega)))
     clear E g0 g1 g2 g3 g4 g5 g6 g7 NC
     obtain⟨p0,p2,p5,p6,p7,q0,q1,q2,q3,q4,fz⟩:=T1.out.cs
     go_wp2_with fail
     refine(V.out _ (GW.out _ (I.out.trans G1.out))).mono ?_
     rintro e w2 ⟨rfl,G⟩
     have T2:=AF (T1.out.gr (Gr.below G) A.1 A.2)
     have Y:=AF (L1.out.below G)
     have J:=AF (G1.out.trans (Gr.below (bx:=bx) G))
     clear G p0 p2 p5 p6 p7 q0 q1 q2 q3 q4 fz V
     obtain⟨p0,p2,p5,p6,p7,q0,q1,q2,q3,q4,fz⟩:=T2.out.cs
     go_wp2_with fail
     all_goals exact⟨rfl,(by first | exact I.out.trans J.out | exact(I.out.trans J.out).set_new (by omega) _ _ | exact((I.out.trans J.out).set_new (by omega) _ _).set_new (by omega) _ _ | exact(((I.out.trans J.out).set_new (by omega) _ _).set_new (by omega) _ _).set_new (by omega) _ _ | exact((((I.out.trans J.out).set_new (by omega) _ _).set_new (by omega) _ _).set_new (by omega) _ _).set_new (by omega) _ _),.inr ⟨HX.out,rfl⟩⟩
   | true=>
     rw[K]at V
     have aj:=AF K
     clear K
     go_wp2_with fail
     refine(NC.out _ ((Gr.alloc _ _).trans (Gr.alloc _ _))).mono ?_
     rintro e w1 ⟨rfl,E⟩
     have G1:Hid (Gr bx wr w1):=((Gr.alloc _ _).trans (Gr.alloc _ _)).trans (Gr.below E)
     have T1:Hid (Two wr.heap.size h (.slice an h.names.length cn) (.slice ak R.len ck) (.slice ae U.len ce) R U w1):=⟨(eC E).1,(eC E).2.1⟩
     have L1:Hid (Lk bx dv m D tw N w1):=HL.out.below ((((AH wr.heap.size wr).alloc (AG _) _).alloc (by simp) _).trans (E.mono (by simp;omega)))
     clear E g0 g1 g2 g3 g4 g5 g6 g7 NC
     obtain⟨p0,p2,p5,p6,p7,q0,q1,q2,q3,q4,fz⟩:=T1.out.cs
     go_wp2_with fail
     refine(V.out _ (GW.out _ (I.out.trans G1.out))).mono ?_
     rintro e w2 ⟨rfl,G⟩
     have T2:=AF (T1.out.gr (Gr.below G) A.1 A.2)
     have Y:=AF (L1.out.below G)
     have J:=AF (G1.out.trans (Gr.below (bx:=bx) G))
     clear G p0 p2 p5 p6 p7 q0 q1 q2 q3 q4 fz V
     obtain⟨p0,p2,p5,p6,p7,q0,q1,q2,q3,q4,fz⟩:=T2.out.cs
     go_wp2_with fail
     all_goals first
     | (have O:Hid (gj h R U (false&&r.isNil)=true):=(hd1 h R U _ Z.out).2 ⟨aj.out,by assumption,(by first | assumption | (simp;assumption) | exact Bool.eq_false_iff.2 (by assumption)),(by first | assumption | (simp;assumption)),by assumption⟩
        have ah:((R.len:Int)+(U.len:Int)=0):=by assumption
        obtain⟨ek,ee⟩:=im ah
        have am:Hid (Pt.form false r=t.form false):=by
         unfold Hid;rw[<-HF.out,aa.out,O.out,ax.out];simp
        have ao:Hid (max D (M+r.deep)=max deep (M+t.deep)):=by
         have:=ay.out
         simp only[Pt.deep]at this
         unfold Hid
         rw[if_neg ac]at this
         omega
        have ai:Hid ((N|| !r.called ds)=(no|| !t.called ds)):=by
         unfold Hid
         rw[<-au.out,ek,ee]
         simp[Pt.called,ap]
        have af:m+r.cnt=many+t.cnt+r.len:=by have ab:=av.out;rw[ek,ee]at ab;simp only[Pt.cnt]at ab;omega
        clear O
        go_roundw
        case rel=>exact⟨k+1,m,D,N,r,by go_num,(by have:=al.out;omega),(by unfold Hid;(first | exact Y.out | exact(Y.out).other A.2 _ _ | exact((Y.out).other A.2 _ _).other A.2 _ _ | exact(((Y.out).other A.2 _ _).other A.2 _ _).other A.2 _ _ | exact((((Y.out).other A.2 _ _).other A.2 _ _).other A.2 _ _).other A.2 _ _)),(by unfold Hid;(first | exact I.out.trans J.out | exact(I.out.trans J.out).set_new (by omega) _ _ | exact((I.out.trans J.out).set_new (by omega) _ _).set_new (by omega) _ _ | exact(((I.out.trans J.out).set_new (by omega) _ _).set_new (by omega) _ _).set_new (by omega) _ _ | exact((((I.out.trans J.out).set_new (by omega) _ _).set_new (by omega) _ _).set_new (by omega) _ _).set_new (by omega) _ _)),aq,ar.out.2.2,af,by omega,by omega,ao.out,ai,am⟩
        case measure=>simp[intOf];omega)
     | (have O:Hid (gj h R U (false&&r.isNil)=false):=by
         refine Bool.eq_false_iff.2 (λe=> ?_)
         obtain⟨-,x0,x1,x2,x3⟩:=(hd1 h R U _ Z.out).1 e
         first | exact absurd x0 (by assumption) | exact absurd x1 (by first | assumption | (simp;assumption)) | exact absurd x2 (by first | assumption | (simp;assumption)) | exact absurd x3 (by assumption)
        have HX:Hid (t.form false=false):=by unfold Hid;rw[<-HF.out,aa.out,O.out];rfl
        exact⟨rfl,(by first | exact I.out.trans J.out | exact(I.out.trans J.out).set_new (by omega) _ _ | exact((I.out.trans J.out).set_new (by omega) _ _).set_new (by omega) _ _ | exact(((I.out.trans J.out).set_new (by omega) _ _).set_new (by omega) _ _).set_new (by omega) _ _ | exact((((I.out.trans J.out).set_new (by omega) _ _).set_new (by omega) _ _).set_new (by omega) _ _).set_new (by omega) _ _),.inr ⟨HX.out,rfl⟩⟩)
 | true=>
   have V:Hid (∀W,Gd W->Calls Tryz.prog 64 #[.string h.text,.bool r.isNil] W λe w'=>e=.returned (.bool (jZ (bl h.text) (true&&r.isNil)))/\Below W.heap.size W w'):=λW hW=>nR h.text (true&&r.isNil) s1 W hW
   cases K:jZ (bl h.text) (true&&r.isNil)with
   | false=>
     rw[K]at V
     have O:Hid (gj h R U (true&&r.isNil)=false):=by
      refine Bool.eq_false_iff.2 (λe=> ?_)
      have:=((hd1 h R U _ Z.out).1 e).1
      rw[K]at this
      cases this
     have HX:Hid (t.form true=false):=by unfold Hid;rw[<-HF.out,aa.out,O.out];rfl
     clear K
     go_wp2_with fail
     refine(NC.out _ ((Gr.alloc _ _).trans (Gr.alloc _ _))).mono ?_
     rintro e w1 ⟨rfl,E⟩
     have G1:Hid (Gr bx wr w1):=((Gr.alloc _ _).trans (Gr.alloc _ _)).trans (Gr.below E)
     have T1:Hid (Two wr.heap.size h (.slice an h.names.length cn) (.slice ak R.len ck) (.slice ae U.len ce) R U w1):=⟨(eC E).1,(eC E).2.1⟩
     have L1:Hid (Lk bx dv m D tw N w1):=HL.out.below ((((AH wr.heap.size wr).alloc (AG _) _).alloc (by simp) _).trans (E.mono (by simp;omega)))
     clear E g0 g1 g2 g3 g4 g5 g6 g7 NC
     obtain⟨p0,p2,p5,p6,p7,q0,q1,q2,q3,q4,fz⟩:=T1.out.cs
     go_wp2_with fail
     refine(V.out _ (GW.out _ (I.out.trans G1.out))).mono ?_
     rintro e w2 ⟨rfl,G⟩
     have T2:=AF (T1.out.gr (Gr.below G) A.1 A.2)
     have Y:=AF (L1.out.below G)
     have J:=AF (G1.out.trans (Gr.below (bx:=bx) G))
     clear G p0 p2 p5 p6 p7 q0 q1 q2 q3 q4 fz V
     obtain⟨p0,p2,p5,p6,p7,q0,q1,q2,q3,q4,fz⟩:=T2.out.cs
     go_wp2_with fail
     all_goals exact⟨rfl,(by first | exact I.out.trans J.out | exact(I.out.trans J.out).set_new (by omega) _ _ | exact((I.out.trans J.out).set_new (by omega) _ _).set_new (by omega) _ _ | exact(((I.out.trans J.out).set_new (by omega) _ _).set_new (by omega) _ _).set_new (by omega) _ _ | exact((((I.out.trans J.out).set_new (by omega) _ _).set_new (by omega) _ _).set_new (by omega) _ _).set_new (by omega) _ _),.inr ⟨HX.out,rfl⟩⟩
   | true=>
     rw[K]at V
     have aj:=AF K
     clear K
     go_wp2_with fail
     refine(NC.out _ ((Gr.alloc _ _).trans (Gr.alloc _ _))).mono ?_
     rintro e w1 ⟨rfl,E⟩
     have G1:Hid (Gr bx wr w1):=((Gr.alloc _ _).trans (Gr.alloc _ _)).trans (Gr.below E)
     have T1:Hid (Two wr.heap.size h (.slice an h.names.length cn) (.slice ak R.len ck) (.slice ae U.len ce) R U w1):=⟨(eC E).1,(eC E).2.1⟩
     have L1:Hid (Lk bx dv m D tw N w1):=HL.out.below ((((AH wr.heap.size wr).alloc (AG _) _).alloc (by simp) _).trans (E.mono (by simp;omega)))
     clear E g0 g1 g2 g3 g4 g5 g6 g7 NC
     obtain⟨p0,p2,p5,p6,p7,q0,q1,q2,q3,q4,fz⟩:=T1.out.cs
     go_wp2_with fail
     refine(V.out _ (GW.out _ (I.out.trans G1.out))).mono ?_
     rintro e w2 ⟨rfl,G⟩
     have T2:=AF (T1.out.gr (Gr.below G) A.1 A.2)
     have Y:=AF (L1.out.below G)
     have J:=AF (G1.out.trans (Gr.below (bx:=bx) G))
     clear G p0 p2 p5 p6 p7 q0 q1 q2 q3 q4 fz V
     obtain⟨p0,p2,p5,p6,p7,q0,q1,q2,q3,q4,fz⟩:=T2.out.cs
     go_wp2_with fail
     all_goals first
     | (have O:Hid (gj h R U (true&&r.isNil)=true):=(hd1 h R U _ Z.out).2 ⟨aj.out,by assumption,(by first | assumption | (simp;assumption) | exact Bool.eq_false_iff.2 (by assumption)),(by first | assumption | (simp;assumption)),by assumption⟩
        have ah:((R.len:Int)+(U.len:Int)=0):=by assumption
        obtain⟨ek,ee⟩:=im ah
        have am:Hid (Pt.form true r=t.form true):=by
         unfold Hid;rw[<-HF.out,aa.out,O.out,ax.out];simp
        have ao:Hid (max D (M+r.deep)=max deep (M+t.deep)):=by
         have:=ay.out
         simp only[Pt.deep]at this
         unfold Hid
         rw[if_neg ac]at this
         omega
        have ai:Hid ((N|| !r.called ds)=(no|| !t.called ds)):=by
         unfold Hid
         rw[<-au.out,ek,ee]
         simp[Pt.called,ap]
        have af:m+r.cnt=many+t.cnt+r.len:=by have ab:=av.out;rw[ek,ee]at ab;simp only[Pt.cnt]at ab;omega
        clear O
        go_roundw
        case rel=>exact⟨k+1,m,D,N,r,by go_num,(by have:=al.out;omega),(by unfold Hid;(first | exact Y.out | exact(Y.out).other A.2 _ _ | exact((Y.out).other A.2 _ _).other A.2 _ _ | exact(((Y.out).other A.2 _ _).other A.2 _ _).other A.2 _ _ | exact((((Y.out).other A.2 _ _).other A.2 _ _).other A.2 _ _).other A.2 _ _)),(by unfold Hid;(first | exact I.out.trans J.out | exact(I.out.trans J.out).set_new (by omega) _ _ | exact((I.out.trans J.out).set_new (by omega) _ _).set_new (by omega) _ _ | exact(((I.out.trans J.out).set_new (by omega) _ _).set_new (by omega) _ _).set_new (by omega) _ _ | exact((((I.out.trans J.out).set_new (by omega) _ _).set_new (by omega) _ _).set_new (by omega) _ _).set_new (by omega) _ _)),aq,ar.out.2.2,af,by omega,by omega,ao.out,ai,am⟩
        case measure=>simp[intOf];omega)
     | (have O:Hid (gj h R U (true&&r.isNil)=false):=by
         refine Bool.eq_false_iff.2 (λe=> ?_)
         obtain⟨-,x0,x1,x2,x3⟩:=(hd1 h R U _ Z.out).1 e
         first | exact absurd x0 (by assumption) | exact absurd x1 (by first | assumption | (simp;assumption)) | exact absurd x2 (by first | assumption | (simp;assumption)) | exact absurd x3 (by assumption)
        have HX:Hid (t.form true=false):=by unfold Hid;rw[<-HF.out,aa.out,O.out];rfl
        exact⟨rfl,(by first | exact I.out.trans J.out | exact(I.out.trans J.out).set_new (by omega) _ _ | exact((I.out.trans J.out).set_new (by omega) _ _).set_new (by omega) _ _ | exact(((I.out.trans J.out).set_new (by omega) _ _).set_new (by omega) _ _).set_new (by omega) _ _ | exact((((I.out.trans J.out).set_new (by omega) _ _).set_new (by omega) _ _).set_new (by omega) _ _).set_new (by omega) _ _),.inr ⟨HX.out,rfl⟩⟩)
end Go.Proofs.YtepcpgdfbaklfaaGreatDoor
