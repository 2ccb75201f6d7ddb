/- The contract of runner.part at a hole: a value, or the error of the way to it. No condition but the run's form in memory. -/
import Derived.Test.YtepcpgdfbaklfaaGreatDoorG5Q
import Derived.Test.YtepcpgdfbaklfaaGreatDoorQcF0
import Derived.Test.YtepcpgdfbaklfaaGreatDoorQcE0
import Derived.Laws.Externs
set_option maxRecDepth 100000
set_option maxHeartbeats 40000000
set_option linter.unusedSimpArgs false
set_option linter.unusedVariables false
namespace Go.Proofs.YtepcpgdfbaklfaaGreatDoor
open Go.RowKit Go.Shelf Ev
attribute [local go_sem ↓] Go.wp_at_zero Go.wp_at_succ
def io (h:Hd)(m rb l:Nat)(G I:Value)(x:Va)(E:Option Addr)(A:Nat)(r:Option Addr)(o:Nat)(i:Nat):Value:=match i with
 | 0=>.pointer (some ⟨m,15,none⟩)
 | 1=>.pointer (some ⟨rb,0,none⟩)
 | 2=>.pointer (some ⟨rb,0,none⟩)
 | 3=>.pointer (some ⟨rb,3,none⟩)
 | 4=>.func (.yield l) #[] #[]
 | 5=>.pointer (some ⟨m+1,1,none⟩)
 | 6=>.int .i64 h.pos
 | 7=>.pointer (some ⟨m,0,none⟩)
 | 8=>G
 | 9=>I
 | 10=>vaV x E A r o
 | 11=>.agg #[.int .i64 h.pos,.bool true,.string ⟨#[]⟩,.int .u8 (x.h.kind:Nat),.bool x.h.b,.int .i64 x.h.n,.int .u64 (x.h.bits:Nat),.string x.h.text,.slice E x.h.keys.length A,.slice r x.items.len o]
 | _=>.bool true
def zq (J:(Nat->Prop)->List It->World->Prop)(S:Nat->Prop)(E:List It)(h:Hd)(I rb l:Nat)(M N:Value)(G:Except Nat Va)(w1:World)(L:Array Bool)(a:Act)(w:World):Prop:=∃(x:Va) (A:Option Addr) (r:Nat) (o:Option Addr) (m:Nat) (w2:World),
 RgI 26 13 93 (io h I rb l M N x A r o m) (.pointer (some ⟨I,0,none⟩)) (.pointer (some ⟨I+1,0,none⟩)) L a/\(L.getD 10 false=false->w=w1.drew)/\(L.getD 10 false=true->G=.ok x/\Va.sm x/\Below w1.heap.size w1.drew w2/\fu (Nu w1.heap.size w2) w2 x A r o m/\(L.getD 12 false=false->w=w2)/\
  (L.getD 12 false=true->∃K,J K (E++[⟨⟨h.pos,true,x,.empty⟩,A,r,o,m,Nu w1.heap.size w2⟩]) w/\xR S (Nu w1.heap.size w2) K w2 w))
theorem sx (D:ByteArray->Pt)(C l rb mb:Nat)(J:(Nat->Prop)->List It->World->Prop)(HJ:pP J)(HY:mq l mb J)(dot root:Va)(h:Hd)(kd el:Pt)(deep f:Nat)(S:Nat->Prop)(aa:List It)(W:World)(a1 a2 a3 a4 an ak ae:Option Addr)(c1 c2 c3 c4 cn ck ce:Nat)(bq:aa.length+(f+1)<=1000000)(bB:deep<=C)(aH:h.sm)(bw:kd.sm)(bz:el.sm)(bC:kd.cnt<=16777216)(bD:el.cnt<=16777216)(aw:ki D C l rb mb S (f+1) W)(hJ:J S aa W)(aK:Okd S rb W dot root a1 a2 a3 a4 c1 c2 c3 c4)(aG:Strs (okS S rb W) W (.slice an h.names.length cn) h.names)(hk:d8 (okS S rb W) W (.slice ak kd.len ck) kd)(he:d8 (okS S rb W) W (.slice ae el.len ce) el)(ad:h.kind=2):
 Calls Tryz.prog 91 #[rnV dot root a1 a2 a3 a4 c1 c2 c3 c4 deep rb,paV h an cn ak kd.len ck ae el.len ce] W (EvP C l rb mb J (match eU h.names (if h.root then root else dot)with | .error x=>⟨[],f,some (x,h.pos)⟩ | .ok v=>⟨[⟨h.pos,true,v,.empty⟩],f,none⟩) S aa W):=by
 obtain⟨G,hg⟩:∃G,eU h.names (if h.root then root else dot)=G:=⟨_,rfl⟩
 rw[hg]
 have bg:=AF HY
 have HG:=AF hg
 clear HY hg
 have j1:((h.kind:Int)==1)=false:=by rw[ad];rfl
 have j2:((h.kind:Int)==2)=true:=by rw[ad];rfl
 have j3:((h.kind:Int)==3)=false:=by rw[ad];rfl
 have j4:((h.kind:Int)==4)=false:=by rw[ad];rfl
 clear ad
 have aT:=AF hJ
 have am:=AF HJ
 have K:=AF aw
 have aS:=AF aK
 have aP:=AF aG
 have br:=AF hk
 have bs:=AF he
 have bh:=AF aH
 clear aw hJ aK aG hk he HJ aH
 unfold rnV paV eA
 go_enter Tryz.func91,Tryz.ntmps91
 go_upto_region 1 with(fail)
 try simp only[Nat.add_assoc,Nat.reduceAdd]
 generalize aL:World.alloc (World.alloc W _) _=W0
 obtain⟨ai,bu,aA,aB⟩:=qx aL
 have aQ:=AF (K.out.stp ai)
 have E:=AF (K.out.below ai)
 have bo:=AF (am.out _ _ _ _ aT.out (eB K.out.lt ai))
 clear aL ai aT
 have bk:=AF aA
 have bn:=AF aB
 have BC:Hid (Calls Tryz.prog 129 #[rnV dot root a1 a2 a3 a4 c1 c2 c3 c4 deep rb,paV h an cn ak kd.len ck ae el.len ce] W0 (BuP mb C l rb h.pos W0 (f+1))):=
  fZ dot root h deep rb mb C l (f+1) E.out.fl a1 a2 a3 a4 an ak ae c1 c2 c3 c4 cn kd.len ck el.len ce W0 E.out.rest
 obtain⟨q0,q1,q2,q3,q4,q5,q6,q7,q8,q9,q10,q11,q12,q13,q14,q15⟩:=(gy aA:mZ _ dot root a1 a2 a3 a4 c1 c2 c3 c4 deep rb _)
 obtain⟨p0,p1,p2,p3,p4,p5,p6,p7⟩:=ja (h:=h) aB
 clear aA aB
 go_wp2_with fail
 refine BC.out.mono ?_
 rintro e w1 ⟨rfl,ay,A⟩
 have bv:=A.size
 have U:=AF (aQ.out.trans (fK E.out.lt A))
 have r:Hid (ki D C l rb mb S f w1):=E.out.step (fK E.out.lt A) ay (Nat.le_succ f)
 have aU:=AF (am.out _ _ _ _ bo.out (A.mono λb M=>⟨E.out.lt b M,λe=>E.out.rbS (by rw[<-e];exact M)⟩))
 have bA:=dX K.out.rest
 have bj:Hid (w1.heap[W.heap.size]? =some (.cells (eA dot root a1 a2 a3 a4 c1 c2 c3 c4 deep rb) 120 (0,0))):=(A.block _ ⟨by omega,by omega⟩).trans bk.out
 have aR:Hid (w1.heap[W.heap.size+1]? =some (.cells (eo h (.slice an h.names.length cn) (.slice ak kd.len ck) (.slice ae el.len ce)) 56 (0,0))):=(A.block _ ⟨by omega,by omega⟩).trans bn.out
 have bi:Hid (okS S rb w1 W.heap.size):=K.out.new (AG _) (by omega)
 have bm:Hid (okS S rb w1 (W.heap.size+1)):=K.out.new (by omega) (by omega)
 have bt:W.heap.size+2<=w1.heap.size:=by omega
 clear ay A BC q0 q1 q2 q3 q4 q5 q6 q7 q8 q9 q10 q11 q12 q13 q14 q15 p0 p1 p2 p3 p4 p5 p6 p7
 obtain⟨p0,p1,p2,p3,p4,p5,p6,p7⟩:=ja aR.out
 go_upto_region 6 with(fail)
 have ag:=AF r.out.rest
 have a8:=bi.out.1
 have ba:=bm.out.1
 have ax:=dX ag.out
 have a6:h.names.length<=140737488351232:=by have:=bh.out.2.2.2.1;omega
 have av:Stp rb S W S w1.drew:=⟨U.out.off.trans (ix _ w1),U.out.grow,U.out.lt⟩
 have R:=aS.out.step av
 have SG:=iw dot root h R.dsm R.rsm a6 _ a1 a2 a3 a4 an ak ae c1 c2 c3 c4 cn kd.len ck el.len ce w1.drew R.dot R.root (av.strs aP.out)
 rw[HG.out]at SG
 replace SG:=AF SG
 clear R
 refine(wpIn_wide (n:=5)).1 (wpIn_region_any (by kernel_rfl) ?_)
 change wpAnyIn _ _ _ _ _ _ _ _ _ w1.drew
 obtain⟨sc,aI⟩:∃sc,sc=scV dot root a1 a2 a3 a4 c1 c2 c3 c4:=⟨_,rfl⟩
 obtain⟨pt,aJ⟩:∃pt,pt=paV h an cn ak kd.len ck ae el.len ce:=⟨_,rfl⟩
 refine oD (zq J S aa h W.heap.size rb l sc pt G w1) (mg (by kernel_rfl)) ?hstep ?hend _ _ _ _ ?hI (by simp) (rU _) (λj oj _ hj=>by simp[Array.getD]at hj)
 case hI=>exact⟨fS,none,0,none,0,w1,RgI.start rfl rfl rfl rfl,λ_=>rfl,λI=>by simp[Array.getD]at I⟩
 case hend=>
  rintro L a w ⟨x,u1,u2,u3,u4,w2,hI,-,aM⟩ ab
  obtain⟨rfl,-,k1,k2,-,k4⟩:=aM (ab 10 (by decide))
  obtain⟨S',aj,ht⟩:=k4 (ab 12 (by decide))
  have h4:=hI.res (ab 13 (by decide))
  have a7:=hI.dfr
  have au:Stp rb S w1 S w2:=⟨(ix _ w1).trans ((Off.of_below k1).mono λb M=>M.1),λb M=>.inl M,λb M=>AI (r.out.lt b M) k1.size⟩
  have aq:w1.heap.size<=w2.heap.size:=k1.size
  have ar:Stp rb S w1 S' w:=⟨au.off.trans ⟨ht.off.os,ht.off.tape,ht.off.output,ht.off.size,λb M=>ht.off.block b ⟨AI M.1 aq,M.2.1⟩⟩,λb M=>by
   rcases ht.grow b M with h | h | h
   · exact .inl h
   · exact .inr h.1
   · exact .inr (Nat.le_trans aq h),ht.lt⟩
  have az:EvP C l rb mb J ⟨[⟨h.pos,true,x,.empty⟩],f,none⟩ S aa W (.returned (.bool true)) w:=
   ⟨S',_,aj,rfl,U.out.trans ar,rfl,(ht.off.block rb ⟨by omega,r.out.rbS⟩).trans ((k1.block rb ax).trans ag.out)⟩
  obtain⟨tmps,defers⟩:=a
  obtain rfl:defers=[]:=a7
  have bd:tmps[4]?.getD undef=.bool true:=by rw[<-h4];simp
  have aV:=AF az
  clear hI aM ab aj ht az h4 k1 k2 k4 au ar
  go_wp2_with fail
  exact⟨rfl,_,by simp[results,Tryz.results91,bd,go_sem],aV.out⟩
 case hstep=>
  rintro L a w i o ⟨x,u1,u2,u3,u4,w2,hI,h0,h1⟩ aF Z ah m N
  have bp:i<14:=(Array.getElem?_eq_some_iff.1 Z).1
  have O:=λhj=>N 11 _ rfl hj ⟨10,.data⟩ (by simp) rfl
  have al:=λhj=>N 12 _ rfl hj ⟨11,.data⟩ (by simp) rfl
  have ao:i<12->L.getD 12 false=false:=λhi=>by
   cases hx:L.getD 12 false with
   | false=>rfl
   | true=>
     have e4:=N 12 _ rfl hx ⟨4,.data⟩ (by simp) rfl
     have e3:=N 4 _ rfl e4 ⟨3,.data⟩ (by simp) rfl
     have e2:=N 3 _ rfl e3 ⟨2,.data⟩ (by simp) rfl
     have e1:=N 2 _ rfl e2 ⟨1,.data⟩ (by simp) rfl
     have e0:=N 1 _ rfl e1 ⟨0,.data⟩ (by simp) rfl
     have aN:=al hx
     have e6:=N 11 _ rfl aN ⟨6,.data⟩ (by simp) rfl
     have e5:=N 6 _ rfl e6 ⟨5,.data⟩ (by simp) rfl
     have aO:=O aN
     have e9:=N 10 _ rfl aO ⟨9,.data⟩ (by simp) rfl
     have e8:=N 10 _ rfl aO ⟨8,.data⟩ (by simp) rfl
     have e7:=N 8 _ rfl e8 ⟨7,.data⟩ (by simp) rfl
     rcases(by omega:i=0\/i=1\/i=2\/i=3\/i=4\/i=5\/i=6\/i=7\/i=8\/i=9\/i=10\/i=11)with rfl | rfl | rfl | rfl | rfl | rfl | rfl | rfl | rfl | rfl | rfl | rfl <;> simp_all only[Bool.false_eq_true]
  have aC:i<12->Below w1.heap.size w1.drew w:=λhi=>by
   cases hx:L.getD 10 false with
   | false=>rw[h0 hx];exact AH _ _
   | true=>rw[(h1 hx).2.2.2.2.1 (ao hi)];exact(h1 hx).2.2.1
  have hq:=λhi=>gy (((aC hi).block _ a8).trans bj.out)
  have hp:=λhi=>ja (((aC hi).block _ ba).trans aR.out)
  have t2:a.tmps[2]?.getD undef=.pointer (some ⟨W.heap.size,0,none⟩):=by rw[<-hI.t2];simp
  have t3:a.tmps[3]?.getD undef=.pointer (some ⟨W.heap.size+1,0,none⟩):=by rw[<-hI.t3];simp
  obtain⟨V,hV⟩:∃V,V=io h W.heap.size rb l sc pt x u1 u2 u3 u4:=⟨_,rfl⟩
  have val:∀k,k<13->L.getD k false=true->a.tmps[26+k]?.getD undef=V k:=λk hk I=>by have:=hI.val k hk I;rw[hV];simpa using this
  have put:∀k,k<13->k≠10->k≠12->zq J S aa h W.heap.size rb l sc pt G w1 (L.setIfInBounds k true) (a.put (some (26+k)) (V k)) w:=λk hk aE aD=>by
   subst hV
   exact⟨x,u1,u2,u3,u4,w2,hI.put k hk (by omega) (by omega) _ rfl,λI=>h0 (by rwa[eb _ _ _ _ _ aE]at I),λI=>by
    rw[eb _ _ _ _ _ aE]at I
    obtain⟨k0,ks,k1,k2,k3,k4⟩:=h1 I
    exact⟨k0,ks,k1,k2,λhm=>k3 (by rwa[eb _ _ _ _ _ aD]at hm),λhm=>k4 (by rwa[eb _ _ _ _ _ aD]at hm)⟩⟩
  rcases(by omega:i=0\/i=1\/i=2\/i=3\/i=4\/i=5\/i=6\/i=7\/i=8\/i=9\/i=10\/i=11\/i=12\/i=13)with rfl | rfl | rfl | rfl | rfl | rfl | rfl | rfl | rfl | rfl | rfl | rfl | rfl | rfl
  all_goals obtain rfl:=Option.some.inj Z
  · refine ep Z rfl (v:=V 0) (w':=w) ?_ (put 0 (by omega) (by omega) (by omega))
    simp[execOp,Act.eval,go_sem,hV,io,t2]
  · have v0:a.tmps[26]?.getD undef=V 0:=val 0 (by omega) (m ⟨0,.data⟩ (by simp) rfl)
    have q15:=(hq (by omega)).q15
    refine ep Z rfl (v:=V 1) (w':=w) ?_ (put 1 (by omega) (by omega) (by omega))
    simp[execOp,Act.eval,go_sem,hV,io,v0,q15]
  · have v1:a.tmps[27]?.getD undef=V 1:=val 1 (by omega) (m ⟨1,.data⟩ (by simp) rfl)
    refine ep Z rfl (v:=V 2) (w':=w) ?_ (put 2 (by omega) (by omega) (by omega))
    simp[execOp,Act.eval,go_sem,hV,io,v1]
  · have v2:a.tmps[28]?.getD undef=V 2:=val 2 (by omega) (m ⟨2,.data⟩ (by simp) rfl)
    refine ep Z rfl (v:=V 3) (w':=w) ?_ (put 3 (by omega) (by omega) (by omega))
    simp[execOp,Act.eval,go_sem,hV,io,v2]
  · have v3:a.tmps[29]?.getD undef=V 3:=val 3 (by omega) (m ⟨3,.data⟩ (by simp) rfl)
    have r3:w.cell? ⟨rb,3,none⟩=some (.func (.yield l) #[] #[]):=by rw[dW (((aC (by omega)).block _ ax).trans ag.out)];rfl
    refine ep Z rfl (v:=V 4) (w':=w) ?_ (put 4 (by omega) (by omega) (by omega))
    simp[execOp,Act.eval,go_sem,hV,io,v3,r3]
  · refine ep Z rfl (v:=V 5) (w':=w) ?_ (put 5 (by omega) (by omega) (by omega))
    simp[execOp,Act.eval,go_sem,hV,io,t3]
  · have v5:a.tmps[31]?.getD undef=V 5:=val 5 (by omega) (m ⟨5,.data⟩ (by simp) rfl)
    have p1:=(hp (by omega)).p1
    refine ep Z rfl (v:=V 6) (w':=w) ?_ (put 6 (by omega) (by omega) (by omega))
    simp[execOp,Act.eval,go_sem,hV,io,v5,p1]
  · refine ep Z rfl (v:=V 7) (w':=w) ?_ (put 7 (by omega) (by omega) (by omega))
    simp[execOp,Act.eval,go_sem,hV,io,t2]
  · have v7:a.tmps[33]?.getD undef=V 7:=val 7 (by omega) (m ⟨7,.data⟩ (by simp) rfl)
    obtain⟨q0,q1,q2,q3,q4,q5,q6,q7,q8,q9,q10,q11,q12,q13,-,-⟩:=hq (by omega)
    refine ep Z rfl (v:=V 8) (w':=w) ?_ (put 8 (by omega) (by omega) (by omega))
    simp[execOp,Act.eval,go_sem,hV,io,aI,v7,q0,q1,q2,q3,q4,q5,q6,q7,q8,q9,q10,q11,q12,q13]
  · obtain⟨p0,p1,p2,p3,p4,p5,p6,p7⟩:=hp (by omega)
    refine ep Z rfl (v:=V 9) (w':=w) ?_ (put 9 (by omega) (by omega) (by omega))
    simp[execOp,Act.eval,go_sem,hV,io,aJ,t3,p0,p1,p2,p3,p4,p5,p6,p7]
  · have be:=ao (by omega)
    obtain rfl:=h0 ah
    have v8:a.tmps[34]?.getD undef=V 8:=val 8 (by omega) (m ⟨8,.data⟩ (by simp) rfl)
    have v9:a.tmps[35]?.getD undef=V 9:=val 9 (by omega) (m ⟨9,.data⟩ (by simp) rfl)
    refine sE (f:=130) (args:=#[scV dot root a1 a2 a3 a4 c1 c2 c3 c4,paV h an cn ak kd.len ck ae el.len ce]) (w':=w1.drew) Z rfl ?_ SG.out ?_ ?_ ?_
    · simp[execOp,Act.eval,go_sem,hV,io,aI,aJ,v8,v9]
    · rintro v ac ⟨M,Y⟩
      cases G with
      | error n=>cases Y
      | ok y=>
      obtain⟨b1,e1,b2,e2,Y,aZ,aY⟩:=Y
      cases Y
      have bf:L.getD 11 false=false:=by
       cases hx:L.getD 11 false with
       | false=>rfl
       | true=>have:=O hx;rw[ah]at this;cases this
      refine⟨y,b1,e1,b2,e2,ac,(hI.to (vals':=io h W.heap.size rb l sc pt y b1 e1 b2 e2) ?_).put 10 (by omega) (by omega) (by omega) _ rfl,λI=>by(rw[fM _ _ _ _ (by rw[aF];decide)]at I;cases I),λ_=>⟨rfl,aY,M,aZ,λ_=>rfl,λhm=>by(rw[eb _ _ _ _ _ (by omega),be]at hm;cases hm)⟩⟩
      intro j hj I
      rcases(by omega:j=0\/j=1\/j=2\/j=3\/j=4\/j=5\/j=6\/j=7\/j=8\/j=9\/j=10\/j=11\/j=12)with rfl | rfl | rfl | rfl | rfl | rfl | rfl | rfl | rfl | rfl | rfl | rfl | rfl
      all_goals first | rfl | (rw[ah]at I;cases I) | (rw[bf]at I;cases I)
    · rintro ch ac ⟨M,Y⟩
      cases G with
      | ok y=>obtain⟨b1,e1,b2,e2,Y,-⟩:=Y;cases Y
      | error n=>
      cases Y
      exact⟨hI.dfr,S,[],by rw[List.append_nil];exact am.out _ _ _ _ aU.out ((ix S w1).trans (eB r.out.lt M)),rfl,U.out.trans ⟨((ix _ w1).trans (Off.of_below M |>.mono λb af=>af.1)),λb af=>.inl af,λb af=>AI (r.out.lt b af) M.size⟩,rfl⟩
    · rintro ac ⟨-,Y⟩
      cases G with
      | ok y=>obtain⟨b1,e1,b2,e2,Y,-⟩:=Y;cases Y
      | error n=>cases Y
  · have v6:a.tmps[32]?.getD undef=V 6:=val 6 (by omega) (m ⟨6,.data⟩ (by simp) rfl)
    have aX:a.tmps[36]?.getD undef=V 10:=val 10 (by omega) (m ⟨10,.data⟩ (by simp) rfl)
    refine ep Z rfl (v:=V 11) (w':=w) ?_ (put 11 (by omega) (by omega) (by omega))
    simp[execOp,Act.eval,go_sem,hV,io,v6,aX]
  · have ap:=O (m ⟨11,.data⟩ (by simp) rfl)
    obtain⟨k0,ks,k1,k2,k3,k4⟩:=h1 ap
    obtain rfl:=k3 ah
    have v4:a.tmps[30]?.getD undef=V 4:=val 4 (by omega) (m ⟨4,.data⟩ (by simp) rfl)
    have aW:a.tmps[37]?.getD undef=V 11:=val 11 (by omega) (m ⟨11,.data⟩ (by simp) rfl)
    have bc:=am.out _ _ _ _ aU.out ((ix S w1).trans (eB r.out.lt k1))
    have hc:=bg.out S aa ⟨⟨h.pos,true,x,.empty⟩,u1,u2,u3,u4,Nu w1.heap.size w⟩ w bc (by omega) ⟨λb M=>⟨λhs=>by have:=r.out.lt b hs;have:=M.1;omega,M.2.1⟩,k2,λb M=>M.2.2,ks,λb M=>by have:=r.out.mbok.1;have:=M.1;omega⟩
    refine lZ (l:=l) (args:=xA ⟨⟨h.pos,true,x,.empty⟩,u1,u2,u3,u4,Nu w1.heap.size w⟩) (w':=w) Z rfl ?_ hc ?_ (λch ac h=>by cases h.1) (λac h=>by cases h.1)
    · simp[execOp,Act.eval,go_sem,hV,io,v4,aW,xA]
      rfl
    · rintro v ac ⟨Y,S',aj,ht⟩
      cases Y
      exact⟨x,u1,u2,u3,u4,w,hI.put 12 (by omega) (by omega) (by omega) _ rfl,λI=>by(rw[eb _ _ _ _ _ (by omega),ap]at I;cases I),λ_=>⟨k0,ks,k1,k2,λI=>by(rw[fM _ _ _ _ (by rw[aF];decide)]at I;cases I),λ_=>⟨S',aj,ht⟩⟩⟩
  · have v12:a.tmps[38]?.getD undef=V 12:=val 12 (by omega) (m ⟨12,.data⟩ (by simp) rfl)
    refine ep Z rfl (v:=.bool true) (w':=w) ?_ ⟨x,u1,u2,u3,u4,w2,hI.putRes (by omega) (by omega),λI=>h0 (by rwa[eb _ _ _ _ _ (by omega)]at I),λI=>by(rw[eb _ _ _ _ _ (by omega)]at I;obtain⟨k0,ks,k1,k2,k3,k4⟩:=h1 I;exact⟨k0,ks,k1,k2,λhm=>k3 (by rwa[eb _ _ _ _ _ (by omega)]at hm),λhm=>k4 (by rwa[eb _ _ _ _ _ (by omega)]at hm)⟩)⟩
    simp[execOp,Act.eval,go_sem,hV,io,v12]
theorem mD {P:Program}(w:World){t:TypeId}(a b:Nat)(m:P.underlying t=some (.float .f64)):(binOp .eql t (.float .f64 a) (.float .f64 b)).run P w=.ok (.bool (Op.floatEq .f64 a b)) w:=by
 simp[binOp,Op.floatCmp,Op.floatEq]
theorem mC {P:Program}(w:World){t:TypeId}(a b:Nat)(m:P.underlying t=some (.float .f64)):(binOp .neq t (.float .f64 a) (.float .f64 b)).run P w=.ok (.bool (!Op.floatEq .f64 a b)) w:=by
 simp[binOp,Op.floatCmp,Op.floatEq,bne]
theorem n8 (n:Nat)(w:World):(Extern.MathFloatBits.float64frombits #[.int .u64 (n:Nat)]).run Tryz.prog w=.ok (.float .f64 n) w:=rfl
theorem qO (x:Va)(ok:Nat->Prop)(a1 a2:Option Addr)(c1 c2:Nat)(w:World):
 Calls Tryz.prog 131 #[.agg #[.int .u8 (x.h.kind:Nat),.bool x.h.b,.int .i64 x.h.n,.int .u64 (x.h.bits:Nat),.string x.h.text,.slice a1 x.h.keys.length c1,.slice a2 x.items.len c2]] w λe w'=>e=.returned (.bool (fV x))/\Below w.heap.size w w':=by
 obtain⟨⟨kind,b,n,bits,text,keys⟩,m⟩:=x
 dsimp only
 have E:Hid (Below w.heap.size w (w.alloc (.cells #[.int .u8 (kind:Nat),.bool b,.int .i64 n,.int .u64 (bits:Nat),.string text,.slice a1 keys.length c1,.slice a2 m.len c2] 31))):=(AH _ w).alloc (AG _) _
 have A:= @run_callFunc_extern Tryz.prog 152 _ Extern.MathFloatBits.float64frombits Tryz.func152 (by kernel_rfl) (by kernel_rfl) (by kernel_rfl) (by kernel_rfl)
 have cF:∀(k:Nat) (w:World),(callFunc 152 #[.int .u64 (k:Nat)]).run Tryz.prog w=.ok (.value (.float .f64 k)) w:=λk w=>(A _ w).trans (by rw[n8];rfl)
 have eF:∀(w:World) (a b:Nat),(binOp .eql 206 (.float .f64 a) (.float .f64 b)).run Tryz.prog w=.ok (.bool (Op.floatEq .f64 a b)) w:=λw a b=>mD w a b Tryz.underlying206
 have Y:∀(w:World) (a b:Nat),(binOp .neq 206 (.float .f64 a) (.float .f64 b)).run Tryz.prog w=.ok (.bool (!Op.floatEq .f64 a b)) w:=λw a b=>mC w a b Tryz.underlying206
 clear A
 by_cases M:kind=2
 · subst M
   go_enter Tryz.func131,Tryz.ntmps131
   go_wp2_with fail
   go_ret
   exact⟨rfl,E.out⟩
 by_cases K:kind=3
 · subst K
   go_enter Tryz.func131,Tryz.ntmps131
   go_wp2_with fail
   go_ret
   refine⟨?_,E.out⟩
   show Ending.returned (.bool (n !=0))=_
   congr 2
   show(n !=0)=fV ⟨⟨3,b,n,bits,text,keys⟩,m⟩
   simp only[fV]
   by_cases G:n=0
   · subst G;rfl
   · simp[G]
 by_cases J:kind=4
 · subst J
   have N:=rq bits
   have R:=rs bits
   have o:Hid (fV ⟨⟨4,b,n,bits,text,keys⟩,m⟩=(!decide (bits % 9223372036854775808=0)&&decide (bits % 9223372036854775808<=9218868437227405312))):=by
    unfold Hid
    simp[fV]
   rw[o.out]
   generalize hd1:decide (bits % 9223372036854775808=0)=W at*
   generalize hd2:decide (bits % 9223372036854775808<=9218868437227405312)=V at*
   clear hd1 hd2 o
   have f3:(FloatKind.f64.format.order bits bits==some Ordering.eq)=V:=R
   go_enter Tryz.func131,Tryz.ntmps131
   cases W with
   | true=>
     have O:(FloatKind.f64.format.order bits 0==some Ordering.eq)=true:=N
     have U:(FloatKind.f64.format.order bits 0 !=some Ordering.eq)=false:=by simp only[bne,O];rfl
     clear N R
     go_wp2_with fail
     go_ret
     exact⟨rfl,E.out⟩
   | false=>
     have O:(FloatKind.f64.format.order bits 0==some Ordering.eq)=false:=N
     have U:(FloatKind.f64.format.order bits 0 !=some Ordering.eq)=true:=by simp only[bne,O];rfl
     clear N R
     go_wp2_with fail
     go_ret
     exact⟨rfl,E.out⟩
 by_cases I:kind=5
 · subst I
   have o:Hid (fV ⟨⟨5,b,n,bits,text,keys⟩,m⟩=decide (text.size≠0)):=by unfold Hid;simp[fV]
   rw[o.out]
   go_enter Tryz.func131,Tryz.ntmps131
   go_wp2_with fail
   go_ret
   refine⟨?_,E.out⟩
   show Ending.returned (.bool !text.toList.isEmpty)=_
   congr 2
   by_cases G:text.size=0
   · rw[show text.toList.isEmpty=true by rw[ia text G,ByteArray.toList_eq];rfl];simp[G]
   · rw[iN text (by omega)];simp[G]
 by_cases r:kind=6\/kind=7
 · have o:Hid (fV ⟨⟨kind,b,n,bits,text,keys⟩,m⟩=decide (m.len≠0)):=by
    unfold Hid
    simp[fV,M,K,J,I,r]
   rw[o.out]
   clear o
   rcases r with rfl | rfl
   all_goals
    go_enter Tryz.func131,Tryz.ntmps131
    go_wp2_with fail
    go_ret
    refine⟨?_,E.out⟩
    show Ending.returned (.bool (decide (0<m.len)))=_
    congr 2
    simp[Nat.pos_iff_ne_zero]
 · have o:Hid (fV ⟨⟨kind,b,n,bits,text,keys⟩,m⟩=false):=by
    unfold Hid
    simp[fV,M,K,J,I,r]
   rw[o.out]
   have e2:((kind:Int)==2)=false:=beq_eq_false_iff_ne.2 (by omega)
   have e3:((kind:Int)==3)=false:=beq_eq_false_iff_ne.2 (by omega)
   have e4:((kind:Int)==4)=false:=beq_eq_false_iff_ne.2 (by omega)
   have e5:((kind:Int)==5)=false:=beq_eq_false_iff_ne.2 (by omega)
   have e6:((kind:Int)==6)=false:=beq_eq_false_iff_ne.2 (by omega)
   have e7:((kind:Int)==7)=false:=beq_eq_false_iff_ne.2 (by omega)
   have g2:¬(kind:Int)=2:=by omega
   have g3:¬(kind:Int)=3:=by omega
   have g4:¬(kind:Int)=4:=by omega
   have g5:¬(kind:Int)=5:=by omega
   have g6:¬(kind:Int)=6:=by omega
   have Z:¬(kind:Int)=7:=by omega
   clear o M K J I r
   go_enter Tryz.func131,Tryz.ntmps131
   go_wp2_with fail
   go_ret
   exact⟨rfl,E.out⟩
def ifF (D:ByteArray->Pt)(C n:Nat)(dot root:Va)(deep:Nat)(h:Hd)(m o:Pt)(f:Nat):Ev.Rs:=match eU h.names (if h.root then root else dot)with | .error y=>(⟨[],f,some (y,h.pos)⟩:Ev.Rs) | .ok v=>em (evF D C n dot root deep) (if fV v then m else o) f
theorem wU (D:ByteArray->Pt)(C l rb mb:Nat)(J:(Nat->Prop)->List It->World->Prop)(HJ:pP J)(n:Nat)(hp:gw D C l rb mb J n)(dot root:Va)(h:Hd)(E I:Pt)(deep f:Nat)(S:Nat->Prop)(N:List It)(W:World)(a1 a2 a3 a4 an ak ae:Option Addr)(c1 c2 c3 c4 cn ck ce:Nat)(ax:f<=n)(a7:N.length+(f+1)<=1000000)(ay:deep<=C)(av:h.sm)(aM:E.sm)(aN:I.sm)(aO:E.cnt<=16777216)(aP:I.cnt<=16777216)(aj:ki D C l rb mb S (f+1) W)(hJ:J S N W)(aw:Okd S rb W dot root a1 a2 a3 a4 c1 c2 c3 c4)(au:Strs (okS S rb W) W (.slice an h.names.length cn) h.names)(hk:d8 (okS S rb W) W (.slice ak E.len ck) E)(he:d8 (okS S rb W) W (.slice ae I.len ce) I)(Z:h.kind=3):
 Calls Tryz.prog 91 #[rnV dot root a1 a2 a3 a4 c1 c2 c3 c4 deep rb,paV h an cn ak E.len ck ae I.len ce] W (EvP C l rb mb J (ifF D C n dot root deep h E I f) S N W):=by
 have HP:=AF hp
 clear hp
 have j1:((h.kind:Int)==1)=false:=by rw[Z];rfl
 have j2:((h.kind:Int)==2)=false:=by rw[Z];rfl
 have j3:((h.kind:Int)==3)=true:=by rw[Z];rfl
 have j4:((h.kind:Int)==4)=false:=by rw[Z];rfl
 clear Z
 have aF:=AF hJ
 have ai:=AF HJ
 have r:=AF aj
 have ad:=AF aw
 have aA:=AF au
 have aE:=AF hk
 have aI:=AF he
 have aQ:=AF av
 clear aj hJ aw au hk he HJ av
 unfold rnV paV eA
 go_enter Tryz.func91,Tryz.ntmps91
 go_upto_region 1 with(fail)
 try simp only[Nat.add_assoc,Nat.reduceAdd]
 generalize az:World.alloc (World.alloc W _) _=W0
 obtain⟨ah,bc,ao,ap⟩:=qx az
 have aB:=AF (r.out.stp ah)
 have o:=AF (r.out.below ah)
 have a6:=AF (ai.out _ _ _ _ aF.out (eB r.out.lt ah))
 clear az ah aF
 have aU:=AF ao
 have aY:=AF ap
 have BC:Hid (Calls Tryz.prog 129 #[rnV dot root a1 a2 a3 a4 c1 c2 c3 c4 deep rb,paV h an cn ak E.len ck ae I.len ce] W0 (BuP mb C l rb h.pos W0 (f+1))):=
  fZ dot root h deep rb mb C l (f+1) o.out.fl a1 a2 a3 a4 an ak ae c1 c2 c3 c4 cn E.len ck I.len ce W0 o.out.rest
 obtain⟨q0,q1,q2,q3,q4,q5,q6,q7,q8,q9,q10,q11,q12,q13,q14,q15⟩:=(gy ao:mZ _ dot root a1 a2 a3 a4 c1 c2 c3 c4 deep rb _)
 obtain⟨p0,p1,p2,p3,p4,p5,p6,p7⟩:=ja (h:=h) ap
 clear ao ap
 go_wp2_with fail
 refine BC.out.mono ?_
 rintro e w1 ⟨rfl,al,m⟩
 have bd:=m.size
 have ab:=AF (aB.out.trans (fK o.out.lt m))
 have R:Hid (ki D C l rb mb S f w1):=o.out.step (fK o.out.lt m) al (Nat.le_succ f)
 have aZ:=AF (ai.out _ _ _ _ a6.out (m.mono λb hb=>⟨o.out.lt b hb,λe=>o.out.rbS (by rw[<-e];exact hb)⟩))
 have be:=dX r.out.rest
 have aC:Hid (w1.heap[W.heap.size]? =some (.cells (eA dot root a1 a2 a3 a4 c1 c2 c3 c4 deep rb) 120 (0,0))):=(m.block _ ⟨by omega,by omega⟩).trans aU.out
 have aD:Hid (w1.heap[W.heap.size+1]? =some (.cells (eo h (.slice an h.names.length cn) (.slice ak E.len ck) (.slice ae I.len ce)) 56 (0,0))):=(m.block _ ⟨by omega,by omega⟩).trans aY.out
 have aR:Hid (okS S rb w1 W.heap.size):=r.out.new (AG _) (by omega)
 have aV:Hid (okS S rb w1 (W.heap.size+1)):=r.out.new (by omega) (by omega)
 have ba:W.heap.size+2<=w1.heap.size:=by omega
 clear al m BC q0 q1 q2 q3 q4 q5 q6 q7 q8 q9 q10 q11 q12 q13 q14 q15 p0 p1 p2 p3 p4 p5 p6 p7
 obtain⟨p0,p1,p2,p3,p4,p5,p6,p7⟩:=ja aD.out
 go_upto_region 8 with(fail)
 obtain⟨q0,q1,q2,q3,q4,q5,q6,q7,q8,q9,q10,q11,q12,q13,q14,q15⟩:=gy aC.out
 have aL:h.names.length<=140737488351232:=by have:=aQ.out.2.2.2.1;omega
 have U:=AF (ad.out.step ab.out)
 have SG:Hid (Calls Tryz.prog 130 #[(scV dot root a1 a2 a3 a4 c1 c2 c3 c4),(paV h an cn ak E.len ck ae I.len ce)] w1 (SgP (eU h.names (if h.root then root else dot)) h.pos w1)):=
  iw dot root h U.out.dsm U.out.rsm aL _ a1 a2 a3 a4 an ak ae c1 c2 c3 c4 cn E.len ck I.len ce w1 U.out.dot U.out.root (ab.out.strs aA.out)
 go_wp2_with fail
 refine SG.out.mono ?_
 rintro e w2 ⟨M,Y⟩
 obtain⟨G,hG⟩:∃G,eU h.names (if h.root then root else dot)=G:=⟨_,rfl⟩
 have HG:=AF hG
 rw[hG]at Y
 clear hG
 have bf:=AF M
 have a8:W.heap.size+2<=w2.heap.size:=by have:=M.size;omega
 have am:=AF (ab.out.trans (R.out.stp M))
 have O:=AF (R.out.below M)
 have aH:=AF (ai.out _ _ _ _ aZ.out (eB R.out.lt M))
 have aT:Hid (w2.heap[W.heap.size]? =some (.cells (eA dot root a1 a2 a3 a4 c1 c2 c3 c4 deep rb) 120 (0,0))):=(M.block _ aR.out.1).trans aC.out
 have aX:Hid (w2.heap[W.heap.size+1]? =some (.cells (eo h (.slice an h.names.length cn) (.slice ak E.len ck) (.slice ae I.len ce)) 56 (0,0))):=(M.block _ aV.out.1).trans aD.out
 clear M SG q0 q1 q2 q3 q4 q5 q6 q7 q8 q9 q10 q11 q12 q13 q14 q15 p0 p1 p2 p3 p4 p5 p6 p7
 cases G with
 | error y=>
   obtain rfl:=Y
   have ag:Hid ((ifF D C n dot root deep h E I f)=⟨[],f,some (y,h.pos)⟩):=by unfold Hid ifF;rw[HG.out]
   go_wp2_with fail
   rw[ag.out]
   exact⟨rfl,S,[],by rw[List.append_nil];exact aH.out,rfl,am.out,rfl⟩
 | ok x=>
   obtain⟨b1,d1,b2,d2,rfl,aJ,aK⟩:=Y
   have TC:=AF (qO x (λ_=>True) b1 b2 d1 d2 w2)
   clear aJ aK
   go_wp2_with fail
   refine TC.out.mono ?_
   rintro e w3 ⟨rfl,V⟩
   have K:=AF (am.out.trans (O.out.stp V))
   have ac:=AF (O.out.below V)
   have aG:=AF (ai.out _ _ _ _ aH.out (eB O.out.lt V))
   have aS:=AF ((V.block _ (by omega)).trans aT.out)
   have aW:=AF ((V.block _ (by omega)).trans aX.out)
   clear V TC
   obtain⟨q0,q1,q2,q3,q4,q5,q6,q7,q8,q9,q10,q11,q12,q13,q14,q15⟩:=gy aS.out
   obtain⟨p0,p1,p2,p3,p4,p5,p6,p7⟩:=ja aW.out
   obtain⟨tf,ar⟩:∃tf,fV x=tf:=⟨_,rfl⟩
   have aq:=AF ar
   rw[aq.out]
   clear ar
   cases tf with
   | true=>
     have PC:Hid (Calls Tryz.prog 52 #[rnV dot root a1 a2 a3 a4 c1 c2 c3 c4 deep rb,.slice ak E.len ck] w3 (EvP C l rb mb J (em (evF D C n dot root deep) E f) S N w3)):=
      HP.out dot root E deep f S N w3 a1 a2 a3 a4 ak c1 c2 c3 c4 ck ax (by omega) ay aM aO ac.out aG.out (ad.out.step K.out) (K.out.parts aE.out)
     have ag:Hid ((ifF D C n dot root deep h E I f)=em (evF D C n dot root deep) E f):=by
      unfold Hid ifF;rw[HG.out];dsimp only;rw[aq.out];rfl
     go_wp2_with fail
     refine PC.out.mono ?_
     rintro e w4 aa
     have A:=EvP.of_stp0 K.out aa
     rw[<-ag.out]at A
     have af:=AF A
     obtain⟨S3,ys,-,-,-,hend⟩:=aa
     clear A PC
     generalize hq:(em (evF D C n dot root deep) E f).err=q at*
     cases q with
     | none=>
       obtain⟨rfl,-⟩:=hend
       go_wp2_with fail
       go_ret
       exact af.out
     | some q=>
       obtain⟨qn,qp⟩:=q
       obtain rfl:=hend
       go_wp2_with fail
       exact⟨rfl,af.out⟩
   | false=>
     have PC:Hid (Calls Tryz.prog 52 #[rnV dot root a1 a2 a3 a4 c1 c2 c3 c4 deep rb,.slice ae I.len ce] w3 (EvP C l rb mb J (em (evF D C n dot root deep) I f) S N w3)):=
      HP.out dot root I deep f S N w3 a1 a2 a3 a4 ae c1 c2 c3 c4 ce ax (by omega) ay aN aP ac.out aG.out (ad.out.step K.out) (K.out.parts aI.out)
     have ag:Hid ((ifF D C n dot root deep h E I f)=em (evF D C n dot root deep) I f):=by
      unfold Hid ifF;rw[HG.out];dsimp only;rw[aq.out];rfl
     go_wp2_with fail
     refine PC.out.mono ?_
     rintro e w4 aa
     have A:=EvP.of_stp0 K.out aa
     rw[<-ag.out]at A
     have af:=AF A
     obtain⟨S3,ys,-,-,-,hend⟩:=aa
     clear A PC
     generalize hq:(em (evF D C n dot root deep) I f).err=q at*
     cases q with
     | none=>
       obtain⟨rfl,-⟩:=hend
       go_wp2_with fail
       go_ret
       exact af.out
     | some q=>
       obtain⟨qn,qp⟩:=q
       obtain rfl:=hend
       go_wp2_with fail
       exact⟨rfl,af.out⟩
theorem ra (D:ByteArray->Pt)(C l rb N:Nat)(J:(Nat->Prop)->List It->World->Prop)(HJ:pP J)(n:Nat)(hp:gw D C l rb N J n)(dot root:Va)(h:Hd)(E G:Pt)(deep f:Nat)(S:Nat->Prop)(I:List It)(W:World)(a1 a2 a3 a4 an ak ae:Option Addr)(c1 c2 c3 c4 Z ck ce:Nat)(av:f<=n)(aF:I.length+(f+1)<=1000000)(aw:deep<=C)(U:h.sm)(ar:E.sm)(au:G.sm)(ax:E.cnt<=16777216)(ay:G.cnt<=16777216)(O:ki D C l rb N S (f+1) W)(hJ:J S I W)(ad:Okd S rb W dot root a1 a2 a3 a4 c1 c2 c3 c4)(ac:Strs (okS S rb W) W (.slice an h.names.length Z) h.names)(hk:d8 (okS S rb W) W (.slice ak E.len ck) E)(he:d8 (okS S rb W) W (.slice ae G.len ce) G)(K:h.kind=4):
 Calls Tryz.prog 91 #[rnV dot root a1 a2 a3 a4 c1 c2 c3 c4 deep rb,paV h an Z ak E.len ck ae G.len ce] W (EvP C l rb N J (gI D C n dot root deep h E G f) S I W):=by
 have HP:=AF hp
 have aj:=AF U
 clear hp
 have j1:((h.kind:Int)==1)=false:=by rw[K];rfl
 have j2:((h.kind:Int)==2)=false:=by rw[K];rfl
 have j3:((h.kind:Int)==3)=false:=by rw[K];rfl
 have j4:((h.kind:Int)==4)=true:=by rw[K];rfl
 clear K
 have ao:=AF hJ
 have ab:=AF HJ
 have r:=AF O
 have al:=AF ad
 have ah:=AF ac
 have am:=AF hk
 have aq:=AF he
 have aK:=AF U
 clear O hJ ad ac hk he HJ U
 unfold rnV paV eA
 go_enter Tryz.func91,Tryz.ntmps91
 go_upto_region 1 with(fail)
 try simp only[Nat.add_assoc,Nat.reduceAdd]
 generalize ag:World.alloc (World.alloc W _) _=W0
 obtain⟨M,aH,V,Y⟩:=qx ag
 have ai:=AF (r.out.stp M)
 have o:=AF (r.out.below M)
 have aE:=AF (ab.out _ _ _ _ ao.out (eB r.out.lt M))
 clear ag M ao
 have aA:=AF V
 have aC:=AF Y
 have BC:Hid (Calls Tryz.prog 129 #[rnV dot root a1 a2 a3 a4 c1 c2 c3 c4 deep rb,paV h an Z ak E.len ck ae G.len ce] W0 (BuP N C l rb h.pos W0 (f+1))):=
  fZ dot root h deep rb N C l (f+1) o.out.fl a1 a2 a3 a4 an ak ae c1 c2 c3 c4 Z E.len ck G.len ce W0 o.out.rest
 obtain⟨q0,q1,q2,q3,q4,q5,q6,q7,q8,q9,q10,q11,q12,q13,q14,q15⟩:=(gy V:mZ _ dot root a1 a2 a3 a4 c1 c2 c3 c4 deep rb _)
 obtain⟨p0,p1,p2,p3,p4,p5,p6,p7⟩:=ja (h:=h) Y
 clear V Y
 go_wp2_with fail
 refine BC.out.mono ?_
 rintro e w1 ⟨rfl,R,m⟩
 have aI:=m.size
 have A:=AF (ai.out.trans (fK o.out.lt m))
 have aa:Hid (ki D C l rb N S f w1):=o.out.step (fK o.out.lt m) R (Nat.le_succ f)
 have aD:=AF (ab.out _ _ _ _ aE.out (m.mono λb hb=>⟨o.out.lt b hb,λe=>o.out.rbS (by rw[<-e];exact hb)⟩))
 have aJ:=dX r.out.rest
 have az:Hid (w1.heap[W.heap.size]? =some (.cells (eA dot root a1 a2 a3 a4 c1 c2 c3 c4 deep rb) 120 (0,0))):=(m.block _ ⟨by omega,by omega⟩).trans aA.out
 have aB:Hid (w1.heap[W.heap.size+1]? =some (.cells (eo h (.slice an h.names.length Z) (.slice ak E.len ck) (.slice ae G.len ce)) 56 (0,0))):=(m.block _ ⟨by omega,by omega⟩).trans aC.out
 have aL:Hid (okS S rb w1 W.heap.size):=r.out.new (AG _) (by omega)
 have aM:Hid (okS S rb w1 (W.heap.size+1)):=r.out.new (by omega) (by omega)
 have aG:W.heap.size+2<=w1.heap.size:=by omega
 clear R m BC q0 q1 q2 q3 q4 q5 q6 q7 q8 q9 q10 q11 q12 q13 q14 q15 p0 p1 p2 p3 p4 p5 p6 p7
 obtain⟨p0,p1,p2,p3,p4,p5,p6,p7⟩:=ja aB.out
 have EC:Hid (Calls Tryz.prog 132 #[rnV dot root a1 a2 a3 a4 c1 c2 c3 c4 deep rb,paV h an Z ak E.len ck ae G.len ce] w1 (EvP C l rb N J (gI D C n dot root deep h E G f) S I w1)):=
  mS D C l rb N J ab.out n HP.out dot root h E G deep f S I w1 a1 a2 a3 a4 an ak ae c1 c2 c3 c4 Z ck ce av (by omega) aw aj.out ar au ax ay aa.out aD.out (al.out.step A.out) (A.out.strs ah.out) (A.out.parts am.out) (A.out.parts aq.out)
 go_upto_region 12 with(fail)
 obtain⟨q0,q1,q2,q3,q4,q5,q6,q7,q8,q9,q10,q11,q12,q13,q14,q15⟩:=gy az.out
 go_wp2_with fail
 refine EC.out.mono ?_
 rintro e w4 af
 have ap:=AF (EvP.of_stp0 A.out af)
 obtain⟨S3,ys,-,-,-,hend⟩:=af
 clear EC q0 q1 q2 q3 q4 q5 q6 q7 q8 q9 q10 q11 q12 q13 q14 q15 p0 p1 p2 p3 p4 p5 p6 p7
 generalize hq:(gI D C n dot root deep h E G f).err=q at*
 cases q with
 | none=>
   obtain⟨rfl,-⟩:=hend
   go_wp2_with fail
   go_ret
   exact ap.out
 | some q=>
   obtain⟨qn,qp⟩:=q
   obtain rfl:=hend
   go_wp2_with fail
   exact⟨rfl,ap.out⟩
end Go.Proofs.YtepcpgdfbaklfaaGreatDoor
