/- The contract of runner.part where there is no fuel, and at a text. No condition but the run's form in memory. -/
import Derived.Test.YtepcpgdfbaklfaaGreatDoorQcG3
set_option maxRecDepth 100000
set_option maxHeartbeats 40000000
set_option linter.unusedSimpArgs false
set_option linter.unusedVariables false
namespace Go.Proofs.YtepcpgdfbaklfaaGreatDoor
open Go.RowKit Go.Shelf Ev
attribute [local go_sem ↓] Go.wp_at_zero Go.wp_at_succ
theorem ix (S:Nat->Prop)(w:World):Off S w w.drew:=⟨rfl,rfl,rfl,AG _,λ_ _=>rfl⟩
theorem nI (D:ByteArray->Pt)(C l rb mb:Nat)(J:(Nat->Prop)->List It->World->Prop)(HJ:pP J)(dot root:Va)(h:Hd)(G N:Pt)(deep:Nat)(S:Nat->Prop)(E:List It)(W:World)(a1 a2 a3 a4 an ak ae:Option Addr)(c1 c2 c3 c4 cn ck ce:Nat)(af:E.length+0<=1000000)(ap:deep<=C)(R:h.sm)(am:G.sm)(ao:N.sm)(aq:G.cnt<=16777216)(ar:N.cnt<=16777216)(A:ki D C l rb mb S 0 W)(hJ:J S E W)(U:Okd S rb W dot root a1 a2 a3 a4 c1 c2 c3 c4)(O:Strs (okS S rb W) W (.slice an h.names.length cn) h.names)(hk:d8 (okS S rb W) W (.slice ak G.len ck) G)(he:d8 (okS S rb W) W (.slice ae N.len ce) N):
 Calls Tryz.prog 91 #[rnV dot root a1 a2 a3 a4 c1 c2 c3 c4 deep rb,paV h an cn ak G.len ck ae N.len ce] W (EvP C l rb mb J ⟨[],0,some (202,h.pos)⟩ S E W):=by
 have aa:=AF hJ
 have ab:=AF HJ
 have o:=AF A
 have ah:=AF U
 have ag:=AF O
 have ai:=AF hk
 have aj:=AF he
 have au:=AF R
 clear A hJ U O hk he HJ R
 unfold rnV paV eA
 go_enter Tryz.func91,Tryz.ntmps91
 go_upto_region 1 with(fail)
 try simp only[Nat.add_assoc,Nat.reduceAdd]
 generalize V:World.alloc (World.alloc W _) _=W0
 obtain⟨r,al,I,K⟩:=qx V
 have Z:=AF (o.out.stp r)
 have m:=AF (o.out.below r)
 have ad:=AF (ab.out _ _ _ _ aa.out (eB o.out.lt r))
 clear V r aa
 have av:=AF I
 have aw:=AF K
 have BC:Hid (Calls Tryz.prog 129 #[rnV dot root a1 a2 a3 a4 c1 c2 c3 c4 deep rb,paV h an cn ak G.len ck ae N.len ce] W0 (BuP mb C l rb h.pos W0 0)):=
  fZ dot root h deep rb mb C l 0 m.out.fl a1 a2 a3 a4 an ak ae c1 c2 c3 c4 cn G.len ck N.len ce W0 m.out.rest
 obtain⟨q0,q1,q2,q3,q4,q5,q6,q7,q8,q9,q10,q11,q12,q13,q14,q15⟩:=(gy I:mZ _ dot root a1 a2 a3 a4 c1 c2 c3 c4 deep rb _)
 obtain⟨p0,p1,p2,p3,p4,p5,p6,p7⟩:=ja (h:=h) K
 clear I K
 go_wp2_with fail
 refine BC.out.mono ?_
 rintro e w1 ⟨rfl,M⟩
 have ac:=AF (ab.out _ _ _ _ ad.out (eB m.out.lt M))
 have Y:=AF (Z.out.trans (m.out.stp M))
 clear M BC
 go_wp2_with fail
 exact⟨rfl,S,[],by rw[List.append_nil];exact ac.out,rfl,Y.out,rfl⟩
theorem wL:Va.sm fS:=⟨⟨by decide,by decide,by decide,by decide,by decide,by decide,λn m=>by cases m⟩,trivial,by decide⟩
def ma (h:Hd):It:=⟨⟨h.pos,false,fS,h.text⟩,none,0,none,0,λ_=>False⟩
def iV (h:Hd)(m rb l:Nat)(i:Nat):Value:=match i with
 | 0=>.pointer (some ⟨m,15,none⟩)
 | 1=>.pointer (some ⟨rb,0,none⟩)
 | 2=>.pointer (some ⟨rb,0,none⟩)
 | 3=>.pointer (some ⟨rb,3,none⟩)
 | 4=>.func (.yield l) #[] #[]
 | 5=>.pointer (some ⟨m+1,1,none⟩)
 | 6=>.int .i64 h.pos
 | 7=>.pointer (some ⟨m+1,2,none⟩)
 | 8=>.string h.text
 | 9=>.agg #[.int .i64 h.pos,.bool false,.string h.text,.int .u8 0,.bool false,.int .i64 0,.int .u64 0,.string ⟨#[]⟩,.slice none 0 0,.slice none 0 0]
 | _=>.bool true
theorem sw (D:ByteArray->Pt)(C l rb mb:Nat)(J:(Nat->Prop)->List It->World->Prop)(HJ:pP J)(HY:mq l mb J)(dot root:Va)(h:Hd)(kd el:Pt)(deep f:Nat)(S:Nat->Prop)(M:List It)(W:World)(a1 a2 a3 a4 an ak ae:Option Addr)(c1 c2 c3 c4 cn ck ce:Nat)(aO:M.length+(f+1)<=1000000)(a6:deep<=C)(ar:h.sm)(aX:kd.sm)(aY:el.sm)(a7:kd.cnt<=16777216)(a8:el.cnt<=16777216)(ah:ki D C l rb mb S (f+1) W)(hJ:J S M W)(au:Okd S rb W dot root a1 a2 a3 a4 c1 c2 c3 c4)(aq:Strs (okS S rb W) W (.slice an h.names.length cn) h.names)(hk:d8 (okS S rb W) W (.slice ak kd.len ck) kd)(he:d8 (okS S rb W) W (.slice ae el.len ce) el)(aa:h.kind=1):
 Calls Tryz.prog 91 #[rnV dot root a1 a2 a3 a4 c1 c2 c3 c4 deep rb,paV h an cn ak kd.len ck ae el.len ce] W (EvP C l rb mb J ⟨[⟨h.pos,false,fS,h.text⟩],f,none⟩ S M W):=by
 have aG:=AF HY
 clear HY
 have j1:((h.kind:Int)==1)=true:=by rw[aa];rfl
 have j2:((h.kind:Int)==2)=false:=by rw[aa];rfl
 have j3:((h.kind:Int)==3)=false:=by rw[aa];rfl
 have j4:((h.kind:Int)==4)=false:=by rw[aa];rfl
 clear aa
 have az:=AF hJ
 have ao:=AF HJ
 have I:=AF ah
 have aQ:=AF au
 have aP:=AF aq
 have aR:=AF hk
 have aS:=AF he
 have ba:=AF ar
 clear ah hJ au aq hk he HJ ar
 unfold rnV paV eA
 go_enter Tryz.func91,Tryz.ntmps91
 go_upto_region 1 with(fail)
 try simp only[Nat.add_assoc,Nat.reduceAdd]
 generalize av:World.alloc (World.alloc W _) _=W0
 obtain⟨af,aU,al,am⟩:=qx av
 have ay:=AF (I.out.stp af)
 have G:=AF (I.out.below af)
 have aM:=AF (ao.out _ _ _ _ az.out (eB I.out.lt af))
 clear av af az
 have aI:=AF al
 have aK:=AF am
 have BC:Hid (Calls Tryz.prog 129 #[rnV dot root a1 a2 a3 a4 c1 c2 c3 c4 deep rb,paV h an cn ak kd.len ck ae el.len ce] W0 (BuP mb C l rb h.pos W0 (f+1))):=
  fZ dot root h deep rb mb C l (f+1) G.out.fl a1 a2 a3 a4 an ak ae c1 c2 c3 c4 cn kd.len ck el.len ce W0 G.out.rest
 obtain⟨q0,q1,q2,q3,q4,q5,q6,q7,q8,q9,q10,q11,q12,q13,q14,q15⟩:=(gy al:mZ _ dot root a1 a2 a3 a4 c1 c2 c3 c4 deep rb _)
 obtain⟨p0,p1,p2,p3,p4,p5,p6,p7⟩:=ja (h:=h) am
 clear al am
 go_wp2_with fail
 refine BC.out.mono ?_
 rintro e w1 ⟨rfl,ai,E⟩
 have aV:=E.size
 have ax:=AF (ay.out.trans (fK G.out.lt E))
 have ac:Hid (ki D C l rb mb S f w1):=G.out.step (fK G.out.lt E) ai (Nat.le_succ f)
 have aL:=AF (ao.out _ _ _ _ aM.out (E.mono λb R=>⟨G.out.lt b R,λe=>G.out.rbS (by rw[<-e];exact R)⟩))
 have aZ:=dX I.out.rest
 have aH:Hid (w1.heap[W.heap.size]? =some (.cells (eA dot root a1 a2 a3 a4 c1 c2 c3 c4 deep rb) 120 (0,0))):=(E.block _ ⟨by omega,by omega⟩).trans aI.out
 have aJ:Hid (w1.heap[W.heap.size+1]? =some (.cells (eo h (.slice an h.names.length cn) (.slice ak kd.len ck) (.slice ae el.len ce)) 56 (0,0))):=(E.block _ ⟨by omega,by omega⟩).trans aK.out
 have bc:Hid (okS S rb w1 W.heap.size):=I.out.new (AG _) (by omega)
 have bd:Hid (okS S rb w1 (W.heap.size+1)):=I.out.new (by omega) (by omega)
 have aT:W.heap.size+2<=w1.heap.size:=by omega
 clear ai E BC q0 q1 q2 q3 q4 q5 q6 q7 q8 q9 q10 q11 q12 q13 q14 q15 p0 p1 p2 p3 p4 p5 p6 p7
 obtain⟨p0,p1,p2,p3,p4,p5,p6,p7⟩:=ja aJ.out
 go_upto_region 4 with(fail)
 obtain⟨q0,q1,q2,q3,q4,q5,q6,q7,q8,q9,q10,q11,q12,q13,q14,q15⟩:=gy aH.out
 have ad:=AF ac.out.rest
 have r3:w1.cell? ⟨rb,3,none⟩=some (.func (.yield l) #[] #[]):=by rw[dW ad.out];rfl
 refine(wpIn_wide (n:=5)).1 (wpIn_region_any (by kernel_rfl) ?_)
 change wpAnyIn _ _ _ _ _ _ _ _ _ w1.drew
 refine oD (λr a w=>RgI 13 11 93 (iV h W.heap.size rb l) (.pointer (some ⟨W.heap.size,0,none⟩)) (.pointer (some ⟨W.heap.size+1,0,none⟩)) r a/\(r.getD 10 false=false->w=w1.drew)/\(r.getD 10 false=true->∃S',J S' (M++[ma h]) w/\xR S (λ_=>False) S' w1.drew w)) (mg (by kernel_rfl)) ?hstep ?hend _ _ _ _ ?hI (by simp) (rU _) (λj oj _ hj=>by simp[Array.getD]at hj)
 case hI=>exact⟨RgI.start rfl rfl rfl rfl,λ_=>rfl,λU=>by simp[Array.getD]at U⟩
 case hend=>
  rintro r a w ⟨hI,-,aw⟩ ab
  obtain⟨S',ag,Z⟩:=aw (ab 10 (by decide))
  have h4:=hI.res (ab 11 (by decide))
  have aD:=hI.dfr
  have aj:EvP C l rb mb J ⟨[⟨h.pos,false,fS,h.text⟩],f,none⟩ S M W (.returned (.bool true)) w:=
   ⟨S',[ma h],ag,rfl,ax.out.trans ⟨⟨Z.off.os,Z.off.tape,Z.off.output,Z.off.size,λb R=>Z.off.block b ⟨R.1,R.2.1⟩⟩,λb R=>by rcases Z.grow b R with h | h | h;exact .inl h;exact h.elim;exact .inr h,Z.lt⟩,rfl,(Z.off.block rb ⟨dX ad.out,ac.out.rbS⟩).trans ad.out⟩
  obtain⟨tmps,defers⟩:=a
  obtain rfl:defers=[]:=aD
  have aF:tmps[4]?.getD undef=.bool true:=by rw[<-h4];simp
  have aA:=AF aj
  clear hI aw ab ag Z aj h4
  go_wp2_with fail
  exact⟨rfl,_,by simp[results,Tryz.results91,aF,go_sem],aA.out⟩
 case hstep=>
  rintro r a w i o ⟨hI,Y,h1⟩ aC N aW A K
  have aN:i<12:=(Array.getElem?_eq_some_iff.1 N).1
  have m:i<11->r.getD 10 false=false:=λhi=>by
   cases hx:r.getD 10 false with
   | false=>rfl
   | true=>
     have e4:=K 10 _ rfl hx ⟨4,.data⟩ (by simp) rfl
     have e3:=K 4 _ rfl e4 ⟨3,.data⟩ (by simp) rfl
     have e2:=K 3 _ rfl e3 ⟨2,.data⟩ (by simp) rfl
     have e1:=K 2 _ rfl e2 ⟨1,.data⟩ (by simp) rfl
     have e0:=K 1 _ rfl e1 ⟨0,.data⟩ (by simp) rfl
     have e9:=K 10 _ rfl hx ⟨9,.data⟩ (by simp) rfl
     have e8:=K 9 _ rfl e9 ⟨8,.data⟩ (by simp) rfl
     have e7:=K 8 _ rfl e8 ⟨7,.data⟩ (by simp) rfl
     have e6:=K 9 _ rfl e9 ⟨6,.data⟩ (by simp) rfl
     have e5:=K 6 _ rfl e6 ⟨5,.data⟩ (by simp) rfl
     rcases(by omega:i=0\/i=1\/i=2\/i=3\/i=4\/i=5\/i=6\/i=7\/i=8\/i=9\/i=10)with rfl | rfl | rfl | rfl | rfl | rfl | rfl | rfl | rfl | rfl | rfl <;> simp_all only[Bool.false_eq_true]
  have t2:a.tmps[2]?.getD undef=.pointer (some ⟨W.heap.size,0,none⟩):=by rw[<-hI.t2];simp
  have t3:a.tmps[3]?.getD undef=.pointer (some ⟨W.heap.size+1,0,none⟩):=by rw[<-hI.t3];simp
  obtain⟨V,O⟩:∃V,V=iV h W.heap.size rb l:=⟨_,rfl⟩
  have val:∀k,k<11->r.getD k false=true->a.tmps[13+k]?.getD undef=V k:=λk hk U=>by have:=hI.val k hk U;rw[O];simpa using this
  have put:∀k,k<10->r.getD 10 false=false->RgI 13 11 93 (iV h W.heap.size rb l) (.pointer (some ⟨W.heap.size,0,none⟩)) (.pointer (some ⟨W.heap.size+1,0,none⟩)) (r.setIfInBounds k true) (a.put (some (13+k)) (V k))/\((r.setIfInBounds k true).getD 10 false=false->w=w1.drew)/\((r.setIfInBounds k true).getD 10 false=true->∃S',J S' (M++[ma h]) w/\xR S (λ_=>False) S' w1.drew w):=λk hk hx=>by
   subst O
   exact⟨hI.put k (by omega) (by omega) (by omega) _ rfl,λ_=>Y hx,λU=>by rw[eb _ _ _ _ _ (by omega),hx]at U;cases U⟩
  rcases(by omega:i=0\/i=1\/i=2\/i=3\/i=4\/i=5\/i=6\/i=7\/i=8\/i=9\/i=10\/i=11)with rfl | rfl | rfl | rfl | rfl | rfl | rfl | rfl | rfl | rfl | rfl | rfl
  all_goals
   obtain rfl:=Option.some.inj N
  · obtain rfl:=Y (m (by omega))
    refine ep N rfl (v:=V 0) (w':=w1.drew) ?_ (put 0 (by omega) (m (by omega)))
    simp[execOp,Act.eval,go_sem,O,iV,t2]
  · have v0:a.tmps[13]?.getD undef=V 0:=val 0 (by omega) (A ⟨0,.data⟩ (by simp) rfl)
    obtain rfl:=Y (m (by omega))
    refine ep N rfl (v:=V 1) (w':=w1.drew) ?_ (put 1 (by omega) (m (by omega)))
    simp[execOp,Act.eval,go_sem,O,iV,v0,q15]
  · have v1:a.tmps[14]?.getD undef=V 1:=val 1 (by omega) (A ⟨1,.data⟩ (by simp) rfl)
    obtain rfl:=Y (m (by omega))
    refine ep N rfl (v:=V 2) (w':=w1.drew) ?_ (put 2 (by omega) (m (by omega)))
    simp[execOp,Act.eval,go_sem,O,iV,v1]
  · have v2:a.tmps[15]?.getD undef=V 2:=val 2 (by omega) (A ⟨2,.data⟩ (by simp) rfl)
    obtain rfl:=Y (m (by omega))
    refine ep N rfl (v:=V 3) (w':=w1.drew) ?_ (put 3 (by omega) (m (by omega)))
    simp[execOp,Act.eval,go_sem,O,iV,v2]
  · have v3:a.tmps[16]?.getD undef=V 3:=val 3 (by omega) (A ⟨3,.data⟩ (by simp) rfl)
    obtain rfl:=Y (m (by omega))
    refine ep N rfl (v:=V 4) (w':=w1.drew) ?_ (put 4 (by omega) (m (by omega)))
    simp[execOp,Act.eval,go_sem,O,iV,v3,r3]
  · obtain rfl:=Y (m (by omega))
    refine ep N rfl (v:=V 5) (w':=w1.drew) ?_ (put 5 (by omega) (m (by omega)))
    simp[execOp,Act.eval,go_sem,O,iV,t3]
  · have v5:a.tmps[18]?.getD undef=V 5:=val 5 (by omega) (A ⟨5,.data⟩ (by simp) rfl)
    obtain rfl:=Y (m (by omega))
    refine ep N rfl (v:=V 6) (w':=w1.drew) ?_ (put 6 (by omega) (m (by omega)))
    simp[execOp,Act.eval,go_sem,O,iV,v5,p1]
  · obtain rfl:=Y (m (by omega))
    refine ep N rfl (v:=V 7) (w':=w1.drew) ?_ (put 7 (by omega) (m (by omega)))
    simp[execOp,Act.eval,go_sem,O,iV,t3]
  · have v7:a.tmps[20]?.getD undef=V 7:=val 7 (by omega) (A ⟨7,.data⟩ (by simp) rfl)
    obtain rfl:=Y (m (by omega))
    refine ep N rfl (v:=V 8) (w':=w1.drew) ?_ (put 8 (by omega) (m (by omega)))
    simp[execOp,Act.eval,go_sem,O,iV,v7,p2]
  · have v6:a.tmps[19]?.getD undef=V 6:=val 6 (by omega) (A ⟨6,.data⟩ (by simp) rfl)
    have v8:a.tmps[21]?.getD undef=V 8:=val 8 (by omega) (A ⟨8,.data⟩ (by simp) rfl)
    obtain rfl:=Y (m (by omega))
    refine ep N rfl (v:=V 9) (w':=w1.drew) ?_ (put 9 (by omega) (m (by omega)))
    simp[execOp,Act.eval,go_sem,O,iV,v6,v8]
  · obtain rfl:=Y (m (by omega))
    have v4:a.tmps[17]?.getD undef=V 4:=val 4 (by omega) (A ⟨4,.data⟩ (by simp) rfl)
    have v9:a.tmps[22]?.getD undef=V 9:=val 9 (by omega) (A ⟨9,.data⟩ (by simp) rfl)
    have aE:=ao.out _ _ _ _ aL.out (ix S w1)
    have hc:=aG.out S M (ma h) w1.drew aE (by omega) ⟨λb R=>R.elim,⟨Strs.nil _ _,gb.nil _ _⟩,λb R=>R.elim,wL,λb R=>R.elim⟩
    refine lZ (l:=l) (args:=xA (ma h)) (w':=w1.drew) N rfl ?_ hc ?_ (λch ap h=>by cases h.1) (λap h=>by cases h.1)
    · simp[execOp,Act.eval,go_sem,O,iV,v4,v9,xA,ma,fS,rL,Vl.len]
      rfl
    · rintro v ap ⟨hv,S',ag,Z⟩
      cases hv
      exact⟨hI.put 10 (by omega) (by omega) (by omega) _ rfl,λU=>by(rw[fM _ _ _ _ (by rw[aC];decide)]at U;cases U),λ_=>⟨S',ag,Z⟩⟩
  · have m:r.getD 10 false=true:=A ⟨10,.data⟩ (by simp) rfl
    have aB:a.tmps[23]?.getD undef=V 10:=val 10 (by omega) (A ⟨10,.data⟩ (by simp) rfl)
    refine ep N rfl (v:=.bool true) (w':=w) ?_ ⟨hI.putRes (by omega) (by omega),λU=>by(rw[eb _ _ _ _ _ (by omega),m]at U;cases U),λ_=>h1 m⟩
    simp[execOp,Act.eval,go_sem,O,iV,aB]
end Go.Proofs.YtepcpgdfbaklfaaGreatDoor
