/- The contract of runner.each, out of that of runner.parts. No condition but the run's form in memory. -/
import Derived.Test.YtepcpgdfbaklfaaGreatDoorQcG0
set_option maxRecDepth 100000
set_option maxHeartbeats 40000000
set_option linter.unusedSimpArgs false
set_option linter.unusedVariables false
namespace Go.Proofs.YtepcpgdfbaklfaaGreatDoor
open Go.RowKit Go.Shelf Ev
attribute [local go_sem ↓] Go.wp_at_zero Go.wp_at_succ
def gI (D:ByteArray->Pt)(C n:Nat)(dot root:Va)(deep:Nat)(h:Hd)(m o:Pt)(f:Nat):Ev.Rs:=match eU h.names (if h.root then root else dot)with
 | .error x=>⟨[],f,some (x,h.pos)⟩
 | .ok v=>if v.h.kind=6 then if v.items.len=0 then em (evF D C n dot root deep) o f else eM h.pos (λx=>em (evF D C n x root deep) m) v.items f else⟨[],f,some (201,h.pos)⟩
structure mY (rb X:Nat)(S:Nat->Prop)(W:World)(S':Nat->Prop)(W':World):Prop where
 off:Off (λb=>okS S rb W b/\b≠X) W W'
 grow:∀b,S' b->S b\/W.heap.size<=b
 lt:∀b,S' b->b<W'.heap.size
theorem mY.ok {rb X:Nat}{S A:Nat->Prop}{W r:World}(h:mY rb X S W A r):∀b,okS S rb W b->okS A rb r b:=λb m=>
 ⟨AI m.1 h.off.size,λE=>by rcases h.grow b E with o | o;exact m.2.1 o;have:=m.1;omega,m.2.2⟩
theorem mY.trans {rb X:Nat}{S E m:Nat->Prop}{A B C:World}(h:mY rb X S A E B)(k:mY rb X E B m C):mY rb X S A m C:=
 ⟨h.off.trans (k.off.mono λb o=>⟨h.ok b o.1,o.2⟩),λb o=>by
  rcases k.grow b o with r | r
  · exact h.grow b r
  · have:=h.off.size;exact .inr (by omega),k.lt⟩
theorem Stp.x {rb:Nat}{S o:Nat->Prop}{W m:World}(h:Stp rb S W o m)(X:Nat):mY rb X S W o m:=⟨h.off.mono λb r=>r.1,h.grow,h.lt⟩
theorem mY.old {rb X:Nat}{S G:Nat->Prop}{W A E:World}(o:Stp rb S W S A)(h:mY rb X S A G E)(I:W.heap.size<=X):Stp rb S W G E:=
 ⟨o.off.trans (h.off.mono λb m=>⟨o.ok b m,by have:=m.1;omega⟩),λb m=>by
  rcases h.grow b m with r | r
  · exact .inl r
  · have:=o.off.size;exact .inr (by omega),h.lt⟩
theorem mY.set {rb X p n:Nat}{r:List Value}{S:Nat->Prop}{W o:World}(A:∀b,S b->b<W.heap.size)(h:fP W o X p n r):mY rb X S W S o:=
 ⟨⟨h.os,h.tape,h.output,by rw[h.size];exact AG _,λb m=>h.oth b m.2⟩,λb m=>.inl m,λb m=>by rw[h.size];exact A b m⟩
theorem fK {rb:Nat}{S:Nat->Prop}{W o:World}(r:∀b,S b->b<W.heap.size)(h:Off (λb=>b<W.heap.size/\b≠rb) W o):Stp rb S W S o:=
 ⟨h.mono λb m=>⟨m.1,m.2.2⟩,λb m=>.inl m,λb m=>AI (r b m) h.size⟩
def kr (ok:Nat->Prop)(a:Option Addr)(w:World)(r:Vl)(k:Nat):Prop:=r≠.nil->∃b o,a=some ⟨b,o,none⟩/\ok b/\fF ok w r b (o+k*7)
theorem wM {P deep rb c3 c4 J I:Nat}{m root:Va}{G E a3 a4:Option Addr}{w:World}(h:w.heap[P]? =some (.cells (eA m root G E a3 a4 J I c3 c4 deep rb) 120 (0,0)))(y:Va)(r o:Option Addr)(g1 A:Nat):
 ((((((((w.setCell ⟨P,0,none⟩ (.int .u8 (y.h.kind:Nat))).setCell ⟨P,1,none⟩ (.bool y.h.b)).setCell ⟨P,2,none⟩ (.int .i64 y.h.n)).setCell ⟨P,3,none⟩ (.int .u64 (y.h.bits:Nat))).setCell ⟨P,4,none⟩ (.string y.h.text)).setCell ⟨P,5,none⟩ (.slice r y.h.keys.length g1)).setCell ⟨P,6,none⟩ (.slice o y.items.len A))).heap[P]? =some (.cells (eA y root r o a3 a4 g1 A c3 c4 deep rb) 120 (0,0)):=by
 refine(d7 (j:=6) (d7 (j:=5) (d7 (j:=4) (d7 (j:=3) (d7 (j:=2) (d7 (j:=1) (d7 (j:=0) h _) _) _) _) _) _) _).trans ?_
 simp[eA]
theorem uX {pos:Int}{go:Va->Nat->Ev.Rs}{o m:List Pc}{f A:Nat}{h:Vh}{k r:Vl}(E:go ⟨h,k⟩ f=⟨m,A,none⟩):(⟨o,f+1,none⟩:Ev.Rs).seq (eM pos go (.cons h k r))=(⟨o++m,A,none⟩:Ev.Rs).seq (eM pos go r):=by
 simp only[eM,iu,Ev.Rs.seq,E,List.append_assoc]
theorem rk {pos:Int}{go:Va->Nat->Ev.Rs}{o m:List Pc}{f A:Nat}{h:Vh}{k r:Vl}{q:Nat×Int}(E:go ⟨h,k⟩ f=⟨m,A,some q⟩):(⟨o,f+1,none⟩:Ev.Rs).seq (eM pos go (.cons h k r))=⟨o++m,A,some q⟩:=by
 simp only[eM,iu,Ev.Rs.seq,E]
theorem sV {pos:Int}{go:Va->Nat->Ev.Rs}{o:List Pc}{h:Vh}{k r:Vl}:(⟨o,0,none⟩:Ev.Rs).seq (eM pos go (.cons h k r))=⟨o,0,some (202,pos)⟩:=by
 simp only[eM,iu,Ev.Rs.seq,List.append_nil]
theorem mS (D:ByteArray->Pt)(C l rb mb:Nat)(J:(Nat->Prop)->List It->World->Prop)(HJ:pP J)(n:Nat)(hp:gw D C l rb mb J n)
 (dot root:Va) (h:Hd) (m I:Pt) (deep f:Nat) (S:Nat->Prop) (ab:List It) (W:World) (a1 a2 a3 a4 an ak ae:Option Addr) (c1 c2 c3 c4 cn ck ce:Nat)
 (cc:f<=n) (br:ab.length+f<=1000000) (bq:deep<=C) (aw:h.sm) (bY:m.sm) (bZ:I.sm) (cg:m.cnt<=16777216) (ch:I.cnt<=16777216) (ao:ki D C l rb mb S f W) (hJ:J S ab W) (bn:Okd S rb W dot root a1 a2 a3 a4 c1 c2 c3 c4) (bi:Strs (okS S rb W) W (.slice an h.names.length cn) h.names) (hk:d8 (okS S rb W) W (.slice ak m.len ck) m) (he:d8 (okS S rb W) W (.slice ae I.len ce) I):
 Calls Tryz.prog 132 #[rnV dot root a1 a2 a3 a4 c1 c2 c3 c4 deep rb,paV h an cn ak m.len ck ae I.len ce] W (EvP C l rb mb J (gI D C n dot root deep h m I f) S ab W):=by
 have bN:=AF hJ
 have bA:=AF bi
 have bT:=AF he
 have HP:=AF hp
 have am:=AF HJ
 have aQ:Hid (∀W',W.heap.size+1<W'.heap.size->okS S rb W' W.heap.size/\okS S rb W' (W.heap.size+1)):=λW' hW=>⟨ao.new (AG _) (by omega),ao.new (by omega) hW⟩
 have b7:h.names.length<=140737488351232:=by have:=aw.2.2.2.1;omega
 have ac:=AF ao
 have aF:=AF bn
 have aR:=AF hk
 clear ao hJ bn bi hk he hp HJ aw
 unfold rnV paV eA
 go_enter Tryz.func132,Tryz.ntmps132
 go_upto_region 1 with(fail)
 try simp only[Nat.add_assoc,Nat.reduceAdd]
 generalize V:World.alloc (World.alloc W _) _=W0
 obtain⟨aH,cM,aU,aV⟩:=qx V
 have Y:=ac.out.stp aH
 have R:=AF Y
 have ah:=AF (aF.out.step Y)
 have aZ:=AF (Y.strs bA.out)
 have cJ:=AF (Y.parts aR.out)
 have bU:=AF (Y.parts bT.out)
 have ad:=AF (ac.out.below aH)
 have cD:=AF (am.out _ _ _ _ bN.out (eB ac.out.lt aH))
 clear V aH bN Y
 have cu:=AF aU
 have cz:=AF aV
 have SG:Hid (Calls Tryz.prog 130 #[scV dot root a1 a2 a3 a4 c1 c2 c3 c4,paV h an cn ak m.len ck ae I.len ce] W0 (SgP (eU h.names (if h.root then root else dot)) h.pos W0)):=
  iw dot root h ah.out.dsm ah.out.rsm b7 _ a1 a2 a3 a4 an ak ae c1 c2 c3 c4 cn m.len ck I.len ce W0 ah.out.dot ah.out.root aZ.out
 obtain⟨q0,q1,q2,q3,q4,q5,q6,q7,q8,q9,q10,q11,q12,q13,q14,q15⟩:=(gy aU:mZ _ dot root a1 a2 a3 a4 c1 c2 c3 c4 deep rb _)
 obtain⟨p0,p1,p2,p3,p4,p5,p6,p7⟩:=ja (h:=h) aV
 have b8:W.heap.size<W0.heap.size:=by omega
 have ca:W.heap.size+1<W0.heap.size:=by omega
 clear aU aV
 go_wp2_with fail
 refine SG.out.mono ?_
 rintro e w1 ⟨af,ay⟩
 have cW:=AF af
 have cL:W.heap.size+2<=w1.heap.size:=by have:=af.size;omega
 have aO:=AF (ad.out.stp af)
 have aj:=AF (ad.out.below af)
 have bQ:=AF (am.out _ _ _ _ cD.out (eB ad.out.lt af))
 have ct:=AF ((af.block _ b8).trans cu.out)
 have cy:=AF ((af.block _ ca).trans cz.out)
 clear af SG q0 q1 q2 q3 q4 q5 q6 q7 q8 q9 q10 q11 q12 q13 q14 q15 p0 p1 p2 p3 p4 p5 p6 p7
 obtain⟨G,hG⟩:∃G,eU h.names (if h.root then root else dot)=G:=⟨_,rfl⟩
 have HG:=AF hG
 rw[hG]at ay
 clear hG
 cases G with
 | error x=>
   obtain rfl:=ay
   have cF:Hid (gI D C n dot root deep h m I f=⟨[],f,some (x,h.pos)⟩):=by unfold Hid gI;rw[HG.out]
   go_wp2_with fail
   rw[cF.out]
   exact⟨rfl,S,[],by rw[List.append_nil];exact bQ.out,rfl,R.out.trans aO.out,rfl⟩
 | ok x=>
   obtain⟨b1,d1,b2,d2,rfl,bf,bh⟩:=ay
   have cm:=AF bf
   have aY:=AF bh
   have aS:Hid (gI D C n dot root deep h m I f=if x.h.kind=6 then if x.items.len=0 then em (evF D C n dot root deep) I f else eM h.pos (λx=>em (evF D C n x root deep) m) x.items f else⟨[],f,some (201,h.pos)⟩):=by unfold Hid gI;rw[HG.out]
   clear bf bh
   go_upto_region 2 with(fail)
   generalize V:World.alloc w1 _=Z
   obtain⟨ha,-,bu⟩:=ue V
   have HA:=AF ha
   have bX:=AF bu
   clear V ha bu
   have M:=AF (aO.out.trans (aj.out.stp HA.out))
   have K:=AF (aj.out.below HA.out)
   have bd:=AF (am.out _ _ _ _ bQ.out (eB aj.out.lt HA.out))
   have bJ:Hid (Z.heap[W.heap.size]? =some (.cells (eA dot root a1 a2 a3 a4 c1 c2 c3 c4 deep rb) 120 (0,0))):=(HA.out.block _ (by omega)).trans ct.out
   have a8:=AF ((HA.out.block _ (by omega)).trans cy.out)
   have cK:w1.heap.size<Z.heap.size:=dX bX.out
   have co:Hid (fu (λb=>okS S rb Z b/\b≠W.heap.size) Z x b1 d1 b2 d2):=(cm.out.kept (λb O=>HA.out.block b O.2.1)).mono (λb O=>⟨ad.out.new O.1 (by have:=O.2.1;omega),by have:=O.1;omega⟩)
   obtain⟨x0,x1,x2,x3,x4,x5,x6⟩:=fR (h:=x.h) bX.out
   obtain⟨p0,p1,p2,p3,p4,p5,p6,p7⟩:=ja (P:=W.heap.size+1) (h:=h) a8.out
   by_cases h6:x.h.kind=6
   · have j6:((x.h.kind:Int)==6)=true:=by rw[h6];rfl
     have k6:((x.h.kind:Int)!=6)=false:=by rw[h6];rfl
     have ar:Hid (gI D C n dot root deep h m I f=if x.items.len=0 then em (evF D C n dot root deep) I f else eM h.pos (λx=>em (evF D C n x root deep) m) x.items f):=by unfold Hid;rw[aS.out,if_pos h6]
     clear h6
     by_cases h0:x.items.len=0
     · have i0:(x.items.len:Int)=0:=by omega
       have ai:Hid (gI D C n dot root deep h m I f=em (evF D C n dot root deep) I f):=by unfold Hid;rw[ar.out,if_pos h0]
       obtain⟨q0,q1,q2,q3,q4,q5,q6,q7,q8,q9,q10,q11,q12,q13,q14,q15⟩:=gy bJ.out
       have PC:Hid (Calls Tryz.prog 52 #[rnV dot root a1 a2 a3 a4 c1 c2 c3 c4 deep rb,.slice ae I.len ce] Z (EvP C l rb mb J (em (evF D C n dot root deep) I f) S ab Z)):=
        HP.out dot root I deep f S ab Z a1 a2 a3 a4 ae c1 c2 c3 c4 ce cc br bq bZ ch K.out bd.out (ah.out.step M.out) (M.out.parts bU.out)
       clear h0
       go_wp2_with fail
       refine PC.out.mono ?_
       rintro e w3 bp
       have az:=EvP.of_stp0 (R.out.trans M.out) bp
       rw[<-ai.out]at az
       have bR:=AF az
       obtain⟨S3,ys,-,-,-,hend⟩:=bp
       clear az PC
       generalize hq:(em (evF D C n dot root deep) I f).err=q at*
       cases q with
       | none=>
         obtain⟨rfl,-⟩:=hend
         go_wp2_with fail
         go_ret
         exact bR.out
       | some q=>
         obtain⟨qn,qp⟩:=q
         obtain rfl:=hend
         go_wp2_with fail
         exact⟨rfl,bR.out⟩
     · have i0:¬(x.items.len:Int)=0:=by omega
       have j0:((x.items.len:Int)==0)=false:=beq_eq_false_iff_ne.2 i0
       have ai:Hid (gI D C n dot root deep h m I f=eM h.pos (λx=>em (evF D C n x root deep) m) x.items f):=by unfold Hid;rw[ar.out,if_neg h0]
       have cE:Hid (kr (λb=>okS S rb Z b/\b≠W.heap.size) b2 Z x.items 0):=by
        intro b4
        obtain⟨a',c',hv,-,-,h3⟩:=co.out.2
        cases hv
        obtain⟨b,o,h4,h5,h6⟩:=h3 b4
        exact⟨b,o,h4,h5,by rw[Nat.zero_mul,Nat.add_zero];exact h6⟩
       clear h0
       go_upto_region 6 with(fail)
       go_wp2_with fail
       clear x0 x1 x2 x3 x4 x5 x6 p0 p1 p2 p3 p4 p5 p6 p7
       have b6:x.items.len<=16777216:=Nat.le_trans (eS x.items) aY.out.2.2
       go_loopw [30] (λi wr=>∃(k U:Nat) (r:Vl) (S':Nat->Prop) (xs:List It) (aC:Va) (y1 y2:Option Addr) (e1 e2:Nat),i=.int .i64 (k:Nat)/\k+r.len=x.items.len/\U<=f/\xs.length+U<=f/\Hid (J S' (ab++xs) wr)/\Hid (mY rb W.heap.size S Z S' wr)/\Hid (wr.heap[rb]? =some (kl mb U C l))/\
        Hid (wr.heap[W.heap.size]? =some (.cells (eA aC root y1 y2 a3 a4 e1 e2 c3 c4 deep rb) 120 (0,0)))/\
        Hid (eM h.pos (λx=>em (evF D C n x root deep) m) x.items f=(⟨xs.map It.pc,U,none⟩:Ev.Rs).seq (eM h.pos (λx=>em (evF D C n x root deep) m) r))/\Hid (kr (λb=>okS S rb Z b/\b≠W.heap.size) b2 Z r k)/\Hid (smX r)/\eX r<=eX x.items) (λi _=>x.items.len - (intOf i).toNat)
       case atStart=>exact⟨0,f,x.items,S,[],dot,a1,a2,c1,c2,rfl,by omega,AG _,by simp,by rw[List.append_nil];exact bd,(Stp.below K.out.lt (AH _ _)).x _,K.out.rest,bJ,by unfold Hid;rw[List.map_nil,sH],cE,aY.out.2.1,AG _⟩
       case round=>
        obtain⟨k,U,r,S',xs,aC,y1,y2,e1,e2,rfl,hk,cR,b6,bM,N,a7,bI,aI,HR,cq,cd⟩:=hrel
        cases r with
        | nil=>
          simp only[Vl.len]at hk
          have cQ:¬(k:Int)<(x.items.len:Int):=by omega
          have ag:Hid (gI D C n dot root deep h m I f=⟨xs.map It.pc,U,none⟩):=by unfold Hid;rw[ai.out,aI.out];simp[eM,Ev.Rs.seq]
          go_wp2_with fail
          go_ret
          rw[ag.out]
          exact⟨S',xs,bM.out,rfl,mY.old (R.out.trans M.out) N.out (AG _),rfl,a7.out⟩
        | cons yh yk r=>
          simp only[Vl.len]at hk
          simp only[eX]at cd
          have cH:(k:Int)<(x.items.len:Int):=by omega
          have cP:(0:Int)<=(k:Int):=by omega
          obtain⟨b,o,rfl,O,ax⟩:=HR.out (by simp)
          have cr:Hid (kr (λb=>okS S rb Z b/\b≠W.heap.size) (some ⟨b,o,none⟩) Z r (k+1)):=λ_=>⟨b,o,rfl,O,by have:=ax.2.2;rwa[show o+k*7+7=o+(k+1)*7 by omega]at this⟩
          obtain⟨aw,aJ,bj⟩:=cq.out
          have bB:=AF bj
          obtain⟨y,hy⟩:∃y:Va,y=⟨yh,yk⟩:=⟨_,rfl⟩
          obtain⟨rfl,rfl⟩:yh=y.h/\yk=y.items:=by rw[hy];exact⟨rfl,rfl⟩
          clear hy
          have bg:Va.sm y:=⟨aw,aJ,by have:=aY.out.2.2;omega⟩
          have cp:=AF bg
          have cb:=fF.kept (N.out.off.block) _ _ _ O ax
          obtain⟨⟨g0,cj,ci,g3,g4,vn,g5,au⟩,⟨v2,g2,g6,k1,k2,k3⟩,-⟩:=cb
          obtain⟨v1,g1,rfl⟩:=au.cases
          have bz:Hid (fu (λb=>okS S rb Z b/\b≠W.heap.size) wr y v1 g1 v2 g2):=⟨au,v2,g2,rfl,k1,k2,k3⟩
          have cT:b<wr.heap.size:=(N.out.ok b O.1).1
          have aB:=aQ.out Z (by omega)
          have b0:W.heap.size<wr.heap.size:=(N.out.ok _ aB.1).1
          have b3:W.heap.size+1<wr.heap.size:=(N.out.ok _ aB.2).1
          have aD:Hid (okS S' rb wr W.heap.size):=N.out.ok _ aB.1
          have bK:Hid (wr.heap[W.heap.size+1]? =some (.cells (eo h (.slice an h.names.length cn) (.slice ak m.len ck) (.slice ae I.len ce)) 56 (0,0))):=(N.out.off.block _ ⟨aB.2,by omega⟩).trans a8.out
          obtain⟨p0,p1,p2,p3,p4,p5,p6,p7⟩:=ja bK.out
          obtain⟨q0,q1,q2,q3,q4,q5,q6,q7,q8,q9,q10,q11,q12,q13,q14,q15⟩:=gy bI.out
          have aM:∀b,S' b->b<wr.heap.size:=N.out.lt
          have bm:=dX a7.out
          have bL:=AF hk
          have cO:k+1+r.len<=x.items.len:=by omega
          have cU:Hid (∀W',eL (λb=>okS S rb Z b/\b≠W.heap.size) wr W'->fu (λb=>okS S rb Z b/\b≠W.heap.size) W' y v1 g1 v2 g2):=λW' hW=>bz.out.kept hW
          clear ax aw aJ bj au k3 hk O bg aB
          go_upto_region 9 with(fail)
          generalize V:World.alloc wr _=wa
          obtain⟨ha,bs,bt⟩:=ue V
          have HA:=AF ha
          have cG:=AF bt
          have be:=AF bs
          have aa:=AF (N.out.trans ((Stp.below aM HA.out).x W.heap.size))
          have bD:=AF ((HA.out.block _ bm).trans a7.out)
          have bO:=AF (am.out _ _ _ _ bM.out (eB aM HA.out))
          have aP:=AF ((HA.out.block _ b0).trans bI.out)
          have cv:=AF ((HA.out.block _ b3).trans bK.out)
          have BC:Hid (Calls Tryz.prog 129 #[rnV aC root y1 y2 a3 a4 e1 e2 c3 c4 deep rb,paV h an cn ak m.len ck ae I.len ce] wa (BuP mb C l rb h.pos wa U)):=
           fZ aC root h deep rb mb C l U (by have:=K.out.fl;omega) y1 y2 a3 a4 an ak ae e1 e2 c3 c4 cn m.len ck I.len ce _ bD.out
          clear V ha bs bt g0 cj ci g3 g4 g5 g6 p0 p1 p2 p3 p4 p5 p6 p7 q0 q1 q2 q3 q4 q5 q6 q7 q8 q9 q10 q11 q12 q13 q14 q15
          obtain⟨p0,p1,p2,p3,p4,p5,p6,p7⟩:=ja cv.out
          obtain⟨q0,q1,q2,q3,q4,q5,q6,q7,q8,q9,q10,q11,q12,q13,q14,q15⟩:=gy aP.out
          cases U with
          | zero=>
            have ag:Hid (gI D C n dot root deep h m I f=⟨xs.map It.pc,0,some (202,h.pos)⟩):=by unfold Hid;rw[ai.out,aI.out,sV]
            go_wp2_with fail
            refine BC.out.mono ?_
            rintro e w3 ⟨rfl,aX⟩
            have bc:=AF (am.out _ _ _ _ bO.out (eB aa.out.lt aX))
            have aq:=AF (aa.out.trans ((Stp.below aa.out.lt aX).x W.heap.size))
            clear aX BC
            go_wp2_with fail
            rw[ag.out]
            exact⟨rfl,S',xs,bc.out,rfl,mY.old (R.out.trans M.out) aq.out (AG _),rfl⟩
          | succ U=>
            go_wp2_with fail
            refine BC.out.mono ?_
            rintro e w3 ⟨rfl,aK,A⟩
            have b5:¬S' rb:=λhs=>by
             rcases N.out.grow rb hs with h1 | h1
             · exact K.out.rbS h1
             · have:=dX K.out.rest;omega
            have aq:=AF (aa.out.trans ((fK aa.out.lt A).x W.heap.size))
            have bc:=AF (am.out _ _ _ _ bO.out (A.mono λb O=>⟨aa.out.lt b O,λe=>b5 (by rw[<-e];exact O)⟩))
            have bG:=AF aK
            have cN:=A.size
            have aE:Hid (w3.heap[W.heap.size]? =some (.cells (eA aC root y1 y2 a3 a4 e1 e2 c3 c4 deep rb) 120 (0,0))):=(A.block _ ⟨by rw[be.out];omega,aD.out.2.2⟩).trans aP.out
            have bW:=AF ((A.block _ ⟨by rw[be.out];omega,by omega⟩).trans cG.out)
            have cA:Hid (eL (λb=>okS S rb Z b/\b≠W.heap.size) wr w3):=λb O=>(A.block b ⟨by have:=(N.out.ok b O.1).1;rw[be.out];omega,O.1.2.2⟩).trans (HA.out.block b (N.out.ok b O.1).1)
            clear aK A BC q0 q1 q2 q3 q4 q5 q6 q7 q8 q9 q10 q11 q12 q13 q14 q15 p0 p1 p2 p3 p4 p5 p6 p7
            obtain⟨q0,q1,q2,q3,q4,q5,q6,q7,q8,q9,q10,q11,q12,q13,q14,q15⟩:=gy aE.out
            obtain⟨x0,x1,x2,x3,x4,x5,x6⟩:=fR (h:=y.h) bW.out
            have qf:=dY aE.out
            go_upto_region 11 with(fail)
            have E:=AF (o7 (p:=0) (.int .u8 (y.h.kind:Nat)) (.bool y.h.b) (.int .i64 y.h.n) (.int .u64 (y.h.bits:Nat)) (.string y.h.text) (.slice v1 y.h.keys.length g1) (.slice v2 y.items.len g2) q0 q1 q2 q3 q4 q5 q6)
            simp only[Nat.zero_add]at E
            have aG:=AF (wM aE.out y v1 v2 g1 g2)
            generalize V:World.setCell _ _ _=w4 at*
            clear V q0 q1 q2 q3 q4 q5 q6 q7 q8 q9 q10 q11 q12 q13 q14 q15 x0 x1 x2 x3 x4 x5 x6 qf
            have bo:W.heap.size≠rb:=aD.out.2.2
            have ap:=AF (aq.out.trans (mY.set aq.out.lt E.out))
            have cC:=AF (am.out _ _ _ _ bc.out ⟨E.out.os,E.out.tape,E.out.output,by rw[E.out.size];exact AG _,λb O=>E.out.oth b (λe=>aD.out.2.1 (by rw[<-e];exact O))⟩)
            have bF:=AF ((E.out.oth rb (λe=>bo e.symm)).trans bG.out)
            have cw:Hid (w4.heap[W.heap.size+1]? =some (.cells (eo h (.slice an h.names.length cn) (.slice ak m.len ck) (.slice ae I.len ce)) 56 (0,0))):=(ap.out.off.block _ ⟨(aQ.out Z (by omega)).2,by omega⟩).trans a8.out
            obtain⟨p0,p1,p2,p3,p4,p5,p6,p7⟩:=ja cw.out
            obtain⟨q0,q1,q2,q3,q4,q5,q6,q7,q8,q9,q10,q11,q12,q13,q14,q15⟩:=gy aG.out
            have ba:=AF (mY.old (R.out.trans M.out) ap.out (AG _))
            have a6:=AF (ac.out.step ba.out bF.out (by omega))
            have bw:Hid (fu (okS S' rb w4) w4 y v1 g1 v2 g2):=((bz.out.kept cA.out).kept (λb O=>E.out.oth b O.2)).mono (λb O=>ap.out.ok b O.1)
            have PC:Hid (Calls Tryz.prog 52 #[rnV y root v1 v2 a3 a4 g1 g2 c3 c4 deep rb,.slice ak m.len ck] w4 (EvP C l rb mb J (em (evF D C n y root deep) m U) S' (ab++xs) w4)):=
             HP.out y root m deep U S' (ab++xs) w4 v1 v2 a3 a4 ak g1 g2 c3 c4 ck (by omega) (by rw[List.length_append];omega) bq bY cg a6.out cC.out ⟨cp.out,aF.out.rsm,bw.out,ba.out.vals aF.out.root⟩ (ba.out.parts aR.out)
            have aW:(em (evF D C n y root deep) m U).fuel<=U:=kW (F:=U) (λx k e f _=>mK n y root deep x k e f) m U (AG _)
            obtain⟨ro,aT⟩:∃ro,em (evF D C n y root deep) m U=ro:=⟨_,rfl⟩
            have aA:=gK (F:=U) (λx k e f _=>jc (D:=D) (C:=C) n y root deep x k e f) m U (AG _)
            rw[aT]at PC aW aA
            obtain⟨ro,rf,re⟩:=ro
            have cS:ro.length+rf<=U:=aA
            clear aA
            have bC:Hid ((λx=>em (evF D C n x root deep) m) ⟨y.h,y.items⟩ U=⟨ro,rf,re⟩):=aT
            clear aT
            go_wp2_with fail
            refine PC.out.mono ?_
            rintro e w5 ⟨S5,ys,bv,aL,av,hend⟩
            have bP:=AF bv
            have al:=AF aL
            have aN:=AF (ap.out.trans (av.x W.heap.size))
            have bH:=AF ((av.off.block W.heap.size ⟨(dX aG.out),aD.out.2.1,aD.out.2.2⟩).trans aG.out)
            clear bv aL av PC p0 p1 p2 p3 p4 p5 p6 p7 q0 q1 q2 q3 q4 q5 q6 q7 q8 q9 q10 q11 q12 q13 q14 q15
            cases re with
            | none=>
              obtain⟨rfl,bk⟩:=hend
              have bE:=AF bk
              have bS:Hid (eM h.pos (λx=>em (evF D C n x root deep) m) x.items f=(⟨(xs++ys).map It.pc,rf,none⟩:Ev.Rs).seq (eM h.pos (λx=>em (evF D C n x root deep) m) r)):=by
               unfold Hid
               rw[aI.out,uX bC.out,List.map_append,al.out]
              have cB:Hid (J S5 (ab++(xs++ys)) w5):=by unfold Hid;rw[<-List.append_assoc];exact bP.out
              have cI:rf<=U:=aW
              clear bk aW
              go_wp2_with fail
              go_roundw
              case rel=>exact⟨k+1,rf,r,S5,xs++ys,y,v1,v2,g1,g2,by go_num,by have:=bL.out;omega,by omega,by have h5:=congrArg List.length al.out;rw[List.length_map]at h5;rw[List.length_append];omega,cB,aN,bE,bH,bS,cr,bB,by omega⟩
              case measure=>simp[intOf];have:=bL.out;omega
            | some q=>
              obtain⟨qn,qp⟩:=q
              obtain rfl:=hend
              have ag:Hid (gI D C n dot root deep h m I f=⟨xs.map It.pc++ro,rf,some (qn,qp)⟩):=by unfold Hid;rw[ai.out,aI.out,rk bC.out]
              go_wp2_with fail
              rw[ag.out]
              exact⟨rfl,S5,xs++ys,by rw[<-List.append_assoc];exact bP.out,by rw[List.map_append,al.out],mY.old (R.out.trans M.out) aN.out (AG _),rfl⟩
   · have i6:¬(x.h.kind:Int)=6:=by omega
     have j6:((x.h.kind:Int)==6)=false:=beq_eq_false_iff_ne.2 i6
     have k6:((x.h.kind:Int)!=6)=true:=by simp only[bne,j6];rfl
     have ar:Hid (gI D C n dot root deep h m I f=⟨[],f,some (201,h.pos)⟩):=by unfold Hid;rw[aS.out,if_neg h6]
     clear h6
     go_wp2_with fail
     rw[ar.out]
     exact⟨rfl,S,[],by rw[List.append_nil];exact bd.out,rfl,R.out.trans M.out,rfl⟩
open Go Go.RowKit Go.Shelf Ev
structure RgI (base m sz:Nat)(vals:Nat->Value)(p2 p3:Value)(listed:Array Bool)(a:Act):Prop where
 dfr:a.defers=[]
 size:a.tmps.size=sz
 t2:a.tmps.getD 2 undef=p2
 t3:a.tmps.getD 3 undef=p3
 val:∀i,i<m->listed.getD i false=true->a.tmps.getD (base+i) undef=vals i
 res:listed.getD m false=true->a.tmps.getD 4 undef=.bool true
theorem fM {α:Type}(t:Array α)(d:Nat)(v u:α)(h:d<t.size):(t.setIfInBounds d v).getD d u=v:=by
 simp[Array.getD,h]
theorem eb {α:Type}(t:Array α)(d j:Nat)(v u:α)(h:d≠j):(t.setIfInBounds d v).getD j u=t.getD j u:=by
 simp only[Array.getD_eq_getD_getElem?,Array.getElem?_setIfInBounds,if_neg h]
theorem RgI.put {base m r:Nat}{vals:Nat->Value}{p2 p3:Value}{o:Array Bool}{a:Act}(h:RgI base m r vals p2 p3 o a)(i:Nat)(J:i<m)(K:5<=base)(I:base+m<=r)(v:Value)(E:v=vals i):RgI base m r vals p2 p3 (o.setIfInBounds i true) (a.put (some (base+i)) v) where
 dfr:=h.dfr
 size:=by simp[Act.put,h.size]
 t2:=(eb _ _ _ _ _ (by omega)).trans h.t2
 t3:=(eb _ _ _ _ _ (by omega)).trans h.t3
 val:=λj G A=>by
  by_cases e:j=i
  · subst e
    exact(fM _ _ _ _ (by rw[h.size];omega)).trans E
  · refine(eb _ _ _ _ _ (by omega)).trans (h.val j G ?_)
    rwa[eb _ _ _ _ _ (λx=>e x.symm)]at A
 res:=λA=>(eb _ _ _ _ _ (by omega)).trans (h.res (by rwa[eb _ _ _ _ _ (by omega)]at A))
theorem RgI.putRes {base m r:Nat}{vals:Nat->Value}{p2 p3:Value}{o:Array Bool}{a:Act}(h:RgI base m r vals p2 p3 o a)(I:5<=base)(G:base+m<=r):RgI base m r vals p2 p3 (o.setIfInBounds m true) (a.put (some 4) (.bool true)) where
 dfr:=h.dfr
 size:=by simp[Act.put,h.size]
 t2:=(eb _ _ _ _ _ (by omega)).trans h.t2
 t3:=(eb _ _ _ _ _ (by omega)).trans h.t3
 val:=λj E A=>(eb _ _ _ _ _ (by omega)).trans (h.val j E (by rwa[eb _ _ _ _ _ (by omega)]at A))
 res:=λ_=>fM _ _ _ _ (by rw[h.size];omega)
theorem RgI.to {base m r:Nat}{vals vals':Nat->Value}{p2 p3:Value}{o:Array Bool}{a:Act}(h:RgI base m r vals p2 p3 o a)(G:∀i,i<m->o.getD i false=true->vals i=vals' i):RgI base m r vals' p2 p3 o a where
 dfr:=h.dfr
 size:=h.size
 t2:=h.t2
 t3:=h.t3
 val:=λi E A=>(h.val i E A).trans (G i E A)
 res:=h.res
theorem RgI.start {base m r:Nat}{vals:Nat->Value}{p2 p3:Value}{k:Nat}{a:Act}(I:a.defers=[])(G:a.tmps.size=r)(E:a.tmps.getD 2 undef=p2)(A:a.tmps.getD 3 undef=p3):RgI base m r vals p2 p3 (Array.replicate k false) a where
 dfr:=I
 size:=G
 t2:=E
 t3:=A
 val:=λi _ o=>by simp[Array.getD]at o
 res:=λo=>by simp[Array.getD]at o
theorem rU (k:Nat):unl (Array.replicate k false).toList<=k:=by
 simp[unl]
end Go.Proofs.YtepcpgdfbaklfaaGreatDoor
