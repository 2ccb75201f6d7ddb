/- The contract of runner.part at a call, out of that of runner.parts. No condition but the run's form in memory. -/
import Derived.Test.YtepcpgdfbaklfaaGreatDoorG5Q
import Derived.StillTailTactics
set_option maxRecDepth 100000
set_option maxHeartbeats 40000000
set_option linter.unusedSimpArgs false
set_option linter.unusedVariables false
namespace Go.Proofs.YtepcpgdfbaklfaaGreatDoor
open Go.RowKit Go.Shelf Ev
attribute [local go_sem ↓] Go.wp_at_zero Go.wp_at_succ
theorem zF {w:World}{g:Nat}{y0 y1 y2 y3 y4 y5 y6 y7 y8 y9 M K J I G:Value}(x0 x1 Z Y W V U R O N E A r o m:Value)(c0:w.cell? ⟨g,0,none⟩=some y0)(c1:w.cell? ⟨g,1,none⟩=some y1)(c2:w.cell? ⟨g,2,none⟩=some y2)(c3:w.cell? ⟨g,3,none⟩=some y3)(c4:w.cell? ⟨g,4,none⟩=some y4)(c5:w.cell? ⟨g,5,none⟩=some y5)(c6:w.cell? ⟨g,6,none⟩=some y6)(c7:w.cell? ⟨g,7,none⟩=some y7)(c8:w.cell? ⟨g,8,none⟩=some y8)(c9:w.cell? ⟨g,9,none⟩=some y9)(ae:w.cell? ⟨g,10,none⟩=some M)(ad:w.cell? ⟨g,11,none⟩=some K)(ac:w.cell? ⟨g,12,none⟩=some J)(ab:w.cell? ⟨g,13,none⟩=some I)(aa:w.cell? ⟨g,14,none⟩=some G):
 fP w (((((((((((((((w.setCell ⟨g,0,none⟩ x0).setCell ⟨g,1,none⟩ x1).setCell ⟨g,2,none⟩ Z).setCell ⟨g,3,none⟩ Y).setCell ⟨g,4,none⟩ W).setCell ⟨g,5,none⟩ V).setCell ⟨g,6,none⟩ U).setCell ⟨g,7,none⟩ R).setCell ⟨g,8,none⟩ O).setCell ⟨g,9,none⟩ N).setCell ⟨g,10,none⟩ E).setCell ⟨g,11,none⟩ A).setCell ⟨g,12,none⟩ r).setCell ⟨g,13,none⟩ o).setCell ⟨g,14,none⟩ m) g 0 15 [x0,x1,Z,Y,W,V,U,R,O,N,E,A,r,o,m]:=by
 have h:=((((((((((((((((fP.nil w g 0).snoc x0 c0).snoc x1 c1).snoc Z c2).snoc Y c3).snoc W c4).snoc V c5).snoc U c6).snoc R c7).snoc O c8).snoc N c9).snoc E ae).snoc A ad).snoc r ac).snoc o ab).snoc m aa)
 simpa using h
theorem uC {P deep rb:Nat}{dot root:Va}{a1 a2 a3 a4:Option Addr}{c1 c2 c3 c4:Nat}{w:World}(h:w.heap[P]? =some (.cells (eA dot root a1 a2 a3 a4 c1 c2 c3 c4 deep rb) 120 (0,0)))(x:Va)(A r:Option Addr)(o m:Nat):
 (((((((((((((((w.setCell ⟨P,0,none⟩ (.int .u8 (x.h.kind:Nat))).setCell ⟨P,1,none⟩ (.bool x.h.b)).setCell ⟨P,2,none⟩ (.int .i64 x.h.n)).setCell ⟨P,3,none⟩ (.int .u64 (x.h.bits:Nat))).setCell ⟨P,4,none⟩ (.string x.h.text)).setCell ⟨P,5,none⟩ (.slice A x.h.keys.length o)).setCell ⟨P,6,none⟩ (.slice r x.items.len m)).setCell ⟨P,7,none⟩ (.int .u8 (x.h.kind:Nat))).setCell ⟨P,8,none⟩ (.bool x.h.b)).setCell ⟨P,9,none⟩ (.int .i64 x.h.n)).setCell ⟨P,10,none⟩ (.int .u64 (x.h.bits:Nat))).setCell ⟨P,11,none⟩ (.string x.h.text)).setCell ⟨P,12,none⟩ (.slice A x.h.keys.length o)).setCell ⟨P,13,none⟩ (.slice r x.items.len m)).setCell ⟨P,14,none⟩ (.int .i64 ((deep:Int)+1))).heap[P]? =some (.cells (eA x x A r A r o m o m (deep+1) rb) 120 (0,0)):=by
 refine(d7 (j:=14) (d7 (j:=13) (d7 (j:=12) (d7 (j:=11) (d7 (j:=10) (d7 (j:=9) (d7 (j:=8) (d7 (j:=7) (d7 (j:=6) (d7 (j:=5) (d7 (j:=4) (d7 (j:=3) (d7 (j:=2) (d7 (j:=1) (d7 (j:=0) h _) _) _) _) _) _) _) _) _) _) _) _) _) _) _).trans ?_
 simp[eA]
theorem tX.look2 {D:ByteArray->Pt}{ok:Nat->Prop}{o:Nat}{W:World}(h:tX D ok o W)(n:ByteArray):
 ∃a c,(Instr.lookup 113 (.map (some o)) (.string n) false).run Tryz.prog W=.ok (.slice a (D n).len c) W/\(Instr.lookup 113 (.map (some o)) (.string n) false).run Tryz.prog W.drew=.ok (.slice a (D n).len c) W.drew/\d8 ok W (.slice a (D n).len c) (D n):=by
 obtain⟨E,m,I,J⟩:=h
 have A:W.drew.heap[o]? =some (.map E m):=I
 rcases J n with⟨i,a,c,r,G⟩ | ⟨r,G⟩
 · refine⟨a,c,?_,?_,G⟩
   · have:=ez (P:=Tryz.prog) 113 9 22 o m E n i _ false Tryz.underlying113 Tryz.underlying9 I r
     simpa using this
   · have:=ez (P:=Tryz.prog) 113 9 22 o m E n i _ false Tryz.underlying113 Tryz.underlying9 A r
     simpa using this
 · rw[G]
   refine⟨none,0,?_,?_,d8.nil _ _⟩
   · have:=fL (P:=Tryz.prog) 113 9 22 o m E n _ false Tryz.underlying113 Tryz.underlying9 I r (jI W)
     simp at this
     exact this
   · have:=fL (P:=Tryz.prog) 113 9 22 o m E n _ false Tryz.underlying113 Tryz.underlying9 A r (jI W.drew)
     simp at this
     exact this
def lx (D:ByteArray->Pt)(C n:Nat)(dot root:Va)(deep:Nat)(h:Hd)(f:Nat):Ev.Rs:=match eU h.names (if h.root then root else dot)with
 | .error y=>⟨[],f,some (y,h.pos)⟩
 | .ok v=>if deep=C then⟨[],f,some (203,h.pos)⟩else em (evF D C n v v (deep+1)) (D h.name) f
theorem sy (D:ByteArray->Pt)(C l rb mb:Nat)(J:(Nat->Prop)->List It->World->Prop)(HJ:pP J)(n:Nat)(hp:gw D C l rb mb J n)(dot root:Va)(h:Hd)(kd el:Pt)(deep f:Nat)(S:Nat->Prop)(ac:List It)(W:World)(a1 a2 a3 a4 an ak ae:Option Addr)(c1 c2 c3 c4 cn ck ce:Nat)(bd:f<=n)(bz:ac.length+(f+1)<=1000000)(bL:deep<=C)(aK:h.sm)(bI:kd.sm)(bJ:el.sm)(bN:kd.cnt<=16777216)(bO:el.cnt<=16777216)(ap:ki D C l rb mb S (f+1) W)(hJ:J S ac W)(aM:Okd S rb W dot root a1 a2 a3 a4 c1 c2 c3 c4)(aJ:Strs (okS S rb W) W (.slice an h.names.length cn) h.names)(hk:d8 (okS S rb W) W (.slice ak kd.len ck) kd)(he:d8 (okS S rb W) W (.slice ae el.len ce) el)(bc:h.kind=0\/4<h.kind):
 Calls Tryz.prog 91 #[rnV dot root a1 a2 a3 a4 c1 c2 c3 c4 deep rb,paV h an cn ak kd.len ck ae el.len ce] W (EvP C l rb mb J (lx D C n dot root deep h f) S ac W):=by
 have HP:=AF hp
 clear hp
 have j1:((h.kind:Int)==1)=false:=beq_eq_false_iff_ne.2 (by omega)
 have j2:((h.kind:Int)==2)=false:=beq_eq_false_iff_ne.2 (by omega)
 have j3:((h.kind:Int)==3)=false:=beq_eq_false_iff_ne.2 (by omega)
 have j4:((h.kind:Int)==4)=false:=beq_eq_false_iff_ne.2 (by omega)
 clear bc
 have aX:=AF hJ
 have ab:=AF HJ
 have o:=AF ap
 have aW:=AF aM
 have aQ:=AF aJ
 have bA:=AF hk
 have bB:=AF he
 have bi:=AF aK
 clear ap hJ aM aJ hk he HJ aK
 unfold rnV paV eA
 go_enter Tryz.func91,Tryz.ntmps91
 go_upto_region 1 with(fail)
 try simp only[Nat.add_assoc,Nat.reduceAdd]
 generalize Z:World.alloc (World.alloc W _) _=W0
 obtain⟨al,bG,aA,aB⟩:=qx Z
 have aS:=AF (o.out.stp al)
 have A:=AF (o.out.below al)
 have bu:=AF (ab.out _ _ _ _ aX.out (eB o.out.lt al))
 clear Z al aX
 have bk:=AF aA
 have bq:=AF aB
 have BC:Hid (Calls Tryz.prog 129 #[rnV dot root a1 a2 a3 a4 c1 c2 c3 c4 deep rb,paV h an cn ak kd.len ck ae el.len ce] W0 (BuP mb C l rb h.pos W0 (f+1))):=
  fZ dot root h deep rb mb C l (f+1) A.out.fl a1 a2 a3 a4 an ak ae c1 c2 c3 c4 cn kd.len ck el.len ce W0 A.out.rest
 obtain⟨q0,q1,q2,q3,q4,q5,q6,q7,q8,q9,q10,q11,q12,q13,q14,q15⟩:=(gy aA:mZ _ dot root a1 a2 a3 a4 c1 c2 c3 c4 deep rb _)
 obtain⟨p0,p1,p2,p3,p4,p5,p6,p7⟩:=ja (h:=h) aB
 clear aA aB
 go_wp2_with fail
 refine BC.out.mono ?_
 rintro e w1 ⟨rfl,aq,m⟩
 have bH:=m.size
 have ai:=AF (aS.out.trans (fK A.out.lt m))
 have M:Hid (ki D C l rb mb S f w1):=A.out.step (fK A.out.lt m) aq (Nat.le_succ f)
 have bt:=AF (ab.out _ _ _ _ bu.out (m.mono λb V=>⟨A.out.lt b V,λe=>A.out.rbS (by rw[<-e];exact V)⟩))
 have bK:=dX o.out.rest
 have aT:Hid (w1.heap[W.heap.size]? =some (.cells (eA dot root a1 a2 a3 a4 c1 c2 c3 c4 deep rb) 120 (0,0))):=(m.block _ ⟨by omega,by omega⟩).trans bk.out
 have aV:Hid (w1.heap[W.heap.size+1]? =some (.cells (eo h (.slice an h.names.length cn) (.slice ak kd.len ck) (.slice ae el.len ce)) 56 (0,0))):=(m.block _ ⟨by omega,by omega⟩).trans bq.out
 have aC:Hid (okS S rb w1 W.heap.size):=o.out.new (AG _) (by omega)
 have bm:Hid (okS S rb w1 (W.heap.size+1)):=o.out.new (by omega) (by omega)
 have bF:W.heap.size+2<=w1.heap.size:=by omega
 clear aq m BC q0 q1 q2 q3 q4 q5 q6 q7 q8 q9 q10 q11 q12 q13 q14 q15 p0 p1 p2 p3 p4 p5 p6 p7
 obtain⟨p0,p1,p2,p3,p4,p5,p6,p7⟩:=ja aV.out
 go_upto_region 13 with(fail)
 obtain⟨q0,q1,q2,q3,q4,q5,q6,q7,q8,q9,q10,q11,q12,q13,q14,q15⟩:=gy aT.out
 have ba:h.names.length<=140737488351232:=by have:=bi.out.2.2.2.1;omega
 have Y:=AF (aW.out.step ai.out)
 have SG:Hid (Calls Tryz.prog 130 #[(scV dot root a1 a2 a3 a4 c1 c2 c3 c4),(paV h an cn ak kd.len ck ae el.len ce)] w1 (SgP (eU h.names (if h.root then root else dot)) h.pos w1)):=
  iw dot root h Y.out.dsm Y.out.rsm ba _ a1 a2 a3 a4 an ak ae c1 c2 c3 c4 cn kd.len ck el.len ce w1 Y.out.dot Y.out.root (ai.out.strs aQ.out)
 go_wp2_with fail
 refine SG.out.mono ?_
 rintro e w2 ⟨N,ad⟩
 obtain⟨G,hG⟩:∃G,eU h.names (if h.root then root else dot)=G:=⟨_,rfl⟩
 have HG:=AF hG
 rw[hG]at ad
 clear hG
 have bP:=AF N
 have bE:W.heap.size+2<=w2.heap.size:=by have:=N.size;omega
 have aw:=AF (ai.out.trans (M.out.stp N))
 have I:=AF (M.out.below N)
 have aZ:=AF (ab.out _ _ _ _ bt.out (eB M.out.lt N))
 have bj:Hid (w2.heap[W.heap.size]? =some (.cells (eA dot root a1 a2 a3 a4 c1 c2 c3 c4 deep rb) 120 (0,0))):=(N.block _ aC.out.1).trans aT.out
 have bp:Hid (w2.heap[W.heap.size+1]? =some (.cells (eo h (.slice an h.names.length cn) (.slice ak kd.len ck) (.slice ae el.len ce)) 56 (0,0))):=(N.block _ bm.out.1).trans aV.out
 clear N SG q0 q1 q2 q3 q4 q5 q6 q7 q8 q9 q10 q11 q12 q13 q14 q15 p0 p1 p2 p3 p4 p5 p6 p7
 cases G with
 | error y=>
   obtain rfl:=ad
   have aj:Hid (lx D C n dot root deep h f=⟨[],f,some (y,h.pos)⟩):=by unfold Hid lx;rw[HG.out]
   go_wp2_with fail
   rw[aj.out]
   exact⟨rfl,S,[],by rw[List.append_nil];exact aZ.out,rfl,aw.out,rfl⟩
 | ok x=>
   obtain⟨b1,d1,b2,d2,rfl,aH,aI⟩:=ad
   have bf:=AF aH
   have aP:=AF aI
   clear aH aI
   have az:Hid (lx D C n dot root deep h f=if deep=C then⟨[],f,some (203,h.pos)⟩else em (evF D C n x x (deep+1)) (D h.name) f):=by unfold Hid lx;rw[HG.out]
   have HA:Hid (Below w2.heap.size w2 (w2.alloc (.cells #[.int .u8 (x.h.kind:Nat),.bool x.h.b,.int .i64 x.h.n,.int .u64 (x.h.bits:Nat),.string x.h.text,.slice b1 x.h.keys.length d1,.slice b2 x.items.len d2] 31))):=(AH _ w2).alloc (AG _) _
   have aG:Hid ((w2.alloc (.cells #[.int .u8 (x.h.kind:Nat),.bool x.h.b,.int .i64 x.h.n,.int .u64 (x.h.bits:Nat),.string x.h.text,.slice b1 x.h.keys.length d1,.slice b2 x.items.len d2] 31)).heap[w2.heap.size]? =some (.cells (d9 x.h (.slice b1 x.h.keys.length d1) (.slice b2 x.items.len d2)) 31 (0,0))):=heap_alloc_new w2 _
   go_upto_region 14 with(fail)
   generalize Z:World.alloc w2 _=w3 at*
   clear Z
   have ao:=AF ((HA.out.block _ (by omega)).trans bj.out)
   have aF:=AF ((HA.out.block _ (by omega)).trans bp.out)
   have ay:Hid (w3.heap[rb]? =some (kl mb f C l)):=(HA.out.block _ (dX I.out.rest)).trans I.out.rest
   obtain⟨q0,q1,q2,q3,q4,q5,q6,q7,q8,q9,q10,q11,q12,q13,q14,q15⟩:=gy ao.out
   have r2:w3.cell? ⟨rb,2,none⟩=some (.int .i64 (C:Nat)):=by rw[dW ay.out];rfl
   go_quiet (fail)
   have aa:Below w3.heap.size w3 (w3.drewN nq):=ei (AH _ _) _
   clear q0 q1 q2 q3 q4 q5 q6 q7 q8 q9 q10 q11 q12 q13 q14 q15 r2
   generalize World.drewN w3 nq=w4 at*
   have O:Below w2.heap.size w2 w4:=HA.out.trans (aa.mono HA.out.size)
   have bD:w2.heap.size<w4.heap.size:=AI (dX aG.out) aa.size
   have av:=AF (aw.out.trans (I.out.stp O))
   have R:=AF (I.out.below O)
   have aY:=AF (ab.out _ _ _ _ aZ.out (eB I.out.lt O))
   have aE:=AF ((aa.block _ (dX ao.out)).trans ao.out)
   have aU:=AF ((aa.block _ (dX aF.out)).trans aF.out)
   have a8:=AF ((aa.block _ (dX aG.out)).trans aG.out)
   have bh:Hid (fu (λb=>okS S rb w4 b/\b≠W.heap.size) w4 x b1 d1 b2 d2):=(bf.out.kept (λb V=>O.block b V.2.1)).mono (λb V=>⟨M.out.new V.1 (by have:=V.2.1;omega),by have:=V.1;omega⟩)
   clear O aa ao aF ay HA
   obtain⟨p0,p1,p2,p3,p4,p5,p6,p7⟩:=ja aU.out
   by_cases ah:deep=C
   · have aj:Hid (lx D C n dot root deep h f=⟨[],f,some (203,h.pos)⟩):=by unfold Hid;rw[az.out,if_pos ah]
     have e1:((deep:Int)==(C:Int))=true:=by rw[ah];simp
     clear ah
     go_wp2_with fail
     rw[aj.out]
     exact⟨rfl,S,[],by rw[List.append_nil];exact aY.out,rfl,av.out,rfl⟩
   · have aj:Hid (lx D C n dot root deep h f=em (evF D C n x x (deep+1)) (D h.name) f):=by unfold Hid;rw[az.out,if_neg ah]
     have e1:((deep:Int)==(C:Int))=false:=beq_eq_false_iff_ne.2 (by omega)
     have e2:¬(deep:Int)=(C:Int):=by omega
     have hd1:deep+1<=C:=by omega
     have bM:=R.out.cl
     have bC:IntKind.i64.wrap ((deep:Int)+1)=((deep+1:Nat):Int):=by rw[IntWalk.i64_in _ ⟨by omega,by omega⟩];omega
     clear ah
     obtain⟨q0,q1,q2,q3,q4,q5,q6,q7,q8,q9,q10,q11,q12,q13,q14,q15⟩:=gy aE.out
     obtain⟨x0,x1,x2,x3,x4,x5,x6⟩:=fR a8.out
     have qf:=dY aE.out
     go_upto_region 18 with(fail)
     have E:=AF (zF (.int .u8 (x.h.kind:Nat)) (.bool x.h.b) (.int .i64 x.h.n) (.int .u64 (x.h.bits:Nat)) (.string x.h.text) (.slice b1 x.h.keys.length d1) (.slice b2 x.items.len d2) (.int .u8 (x.h.kind:Nat)) (.bool x.h.b) (.int .i64 x.h.n) (.int .u64 (x.h.bits:Nat)) (.string x.h.text) (.slice b1 x.h.keys.length d1) (.slice b2 x.items.len d2) (.int .i64 ((deep:Int)+1)) q0 q1 q2 q3 q4 q5 q6 q7 q8 q9 q10 q11 q12 q13 q14)
     have a7:=AF (uC aE.out x b1 b2 d1 d2)
     generalize Z:World.setCell _ _ _=U at*
     clear Z q0 q1 q2 q3 q4 q5 q6 q7 q8 q9 q10 q11 q12 q13 q14 q15 x0 x1 x2 x3 x4 x5 x6 qf p0 p1 p2 p3 p4 p5 p6 p7
     have be:W.heap.size≠rb:=aC.out.2.2
     have ar:=AF (mY.set (rb:=rb) R.out.lt E.out)
     have au:=AF (mY.old av.out ar.out (AG _))
     have ax:Hid (U.heap[rb]? =some (kl mb f C l)):=(E.out.oth rb (λe=>be e.symm)).trans R.out.rest
     have r:Hid (ki D C l rb mb S f U):=o.out.step au.out ax.out (Nat.le_succ f)
     have bs:=AF (ab.out _ _ _ _ aY.out ⟨E.out.os,E.out.tape,E.out.output,by rw[E.out.size];exact AG _,λb V=>E.out.oth b (λe=>aC.out.2.1 (by rw[<-e];exact V))⟩)
     have bo:Hid (U.heap[W.heap.size+1]? =some (.cells (eo h (.slice an h.names.length cn) (.slice ak kd.len ck) (.slice ae el.len ce)) 56 (0,0))):=(E.out.oth _ (by omega)).trans aU.out
     have bg:Hid (fu (okS S rb U) U x b1 d1 b2 d2):=(bh.out.kept (λb V=>E.out.oth b V.2)).mono (λb V=>ar.out.ok b V.1)
     have K:Below U.heap.size U U.drew:=⟨rfl,rfl,rfl,AG _,λ_ _=>rfl⟩
     have aD:=AF (r.out.below K)
     have aR:=AF (au.out.trans (r.out.stp K))
     have br:=AF (ab.out _ _ _ _ bs.out (eB r.out.lt K))
     have aO:=AF ((r.out.stp K).vals bg.out)
     obtain⟨am,cm,bw,bv,aL⟩:=tX.look2 r.out.map h.name
     have bn:=AF ((r.out.stp K).parts aL)
     have ag:=r.out.dsm h.name
     have PC:Hid (Calls Tryz.prog 52 #[.agg #[.int .u8 (x.h.kind:Nat),.bool x.h.b,.int .i64 x.h.n,.int .u64 (x.h.bits:Nat),.string x.h.text,.slice b1 x.h.keys.length d1,.slice b2 x.items.len d2,.int .u8 (x.h.kind:Nat),.bool x.h.b,.int .i64 x.h.n,.int .u64 (x.h.bits:Nat),.string x.h.text,.slice b1 x.h.keys.length d1,.slice b2 x.items.len d2,.int .i64 ((deep:Int)+1),.pointer (some ⟨rb,0,none⟩)],.slice am (D h.name).len cm] U.drew (EvP C l rb mb J (em (evF D C n x x (deep+1)) (D h.name) f) S ac U.drew)):=
      HP.out x x (D h.name) (deep+1) f S ac U.drew b1 b2 b1 b2 am d1 d2 d1 d2 cm bd (by omega) hd1 ag.1 ag.2 aD.out br.out ⟨aP.out,aP.out,aO.out,aO.out⟩ bn.out
     clear aL K ag
     obtain⟨p0,p1,p2,p3,p4,p5,p6,p7⟩:=ja bo.out
     obtain⟨q0,q1,q2,q3,q4,q5,q6,q7,q8,q9,q10,q11,q12,q13,q14,q15⟩:=gy a7.out
     have r0:U.cell? ⟨rb,0,none⟩=some (.map (some mb)):=by rw[dW ax.out];rfl
     go_still_tail 9,(by kernel_rfl)
     change wpList _ _ _ _ _ U.drew
     generalize U.drew=w6 at*
     go_wp2_with fail
     refine PC.out.mono ?_
     rintro e w7 aN
     have af:=EvP.of_stp0 aR.out aN
     rw[<-aj.out]at af
     have a6:=AF af
     obtain⟨S3,ys,-,-,-,hend⟩:=aN
     clear af PC
     generalize hq:(em (evF D C n x x (deep+1)) (D h.name) f).err=q at*
     cases q with
     | none=>
       obtain⟨rfl,-⟩:=hend
       go_wp2_with fail
       go_ret
       exact a6.out
     | some q=>
       obtain⟨qn,qp⟩:=q
       obtain rfl:=hend
       go_wp2_with fail
       exact⟨rfl,a6.out⟩
end Go.Proofs.YtepcpgdfbaklfaaGreatDoor
