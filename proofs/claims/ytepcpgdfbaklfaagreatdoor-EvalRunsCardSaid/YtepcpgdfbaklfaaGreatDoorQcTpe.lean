/- tmpl.Parse up to where its loop ends: the goal there captured, twice (the loop's test, the break). The condition: valid's contract is given; MaxLen holds some number. -/
import Derived.Test.YtepcpgdfbaklfaaGreatDoorQcTac2
import Derived.Deep.RegionHeld3
import Derived.Test.YtepcpgdfbaklfaaGreatDoorQcLibv
set_option maxRecDepth 100000
set_option maxHeartbeats 10000000
set_option linter.unusedVariables false
namespace Go.Proofs.YtepcpgdfbaklfaaGreatDoor
open Go.RowKit Go.Shelf
def PrR (s:ByteArray)(B bx:Nat)(m:World)(o:Rs St)(v5:Value)(wr:World):Prop:=
 ∃(k:Nat) (st:St),v5=.int .i64 (k:Nat)/\k<=s.size/\RdM B (3*k) bx st wr/\Below B m wr/\Hid (readF s.size ((bl s).drop k) k st=o)
theorem PrR.mk {s:ByteArray}{B bx:Nat}{m:World}{o:Rs St}{j:Int}{wr:World}(k:Nat)(st:St)(r:j=((k:Nat):Int))(I:k<=s.size)(G:RdM B (3*k) bx st wr)(E:Below B m wr)(A:Hid (readF s.size ((bl s).drop k) k st=o)):PrR s B bx m o (.int .i64 j) wr:=
 ⟨k,st,by rw[r],I,G,E,A⟩
theorem fx {w w1 W:World}{r:Rs Tm}{a:Act}(n p:Nat)(O:w.heap.size+2<=w1.heap.size)(o:Below w.heap.size w w1)(A:w1.heap[w.heap.size]? =some (.cells #[.slice none 0 0,.slice none 0 0] 25 (0,0)))
 (E:w1.heap[w.heap.size+1]? =some (.cells #[.nilIface] 64 (0,0))) (m:Below w1.heap.size w1 W) (U:a.defers=qt w.heap.size (w.heap.size+1)) (Z:a.tmps.getD 2 undef=.pointer (some ⟨w.heap.size,0,none⟩))
 (Y:a.tmps.getD 3 undef=.pointer (some ⟨w.heap.size+1,0,none⟩)) (R:r=.err n p):
 bodyPostD Tryz.prog Tryz.f26 (mr w r) (.panic [{v:=.iface 84 (.agg #[.int .i64 (n:Nat),.int .i64 (p:Nat)]),recovered:=false}]) a W:=by
 refine pj n p U Z Y (by omega) ((m.block _ (by omega)).trans A) ((m.block _ (by omega)).trans E) ?_
 intro bf w' k1 M K J I k6 G
 rw[R]
 have N:=m.size
 refine⟨⟨K.trans (m.os.trans o.os),J.trans (m.tape.trans o.tape),I.trans (m.output.trans o.output),by omega,λb V=> ?_⟩,bf,rfl,by omega,M⟩
 exact(G b (by omega) (by omega) (by omega)).trans ((m.block b (by omega)).trans (o.block b V))
noncomputable def jq (aL:By->Option Nat)(s:ByteArray)(hs:s.size<=16384)(w:World)(aV:Gd w)(hb:aL (bl s)=none)(VA:∀w,Gd w->Calls Tryz.prog 44 #[.string s] w (qF w none)):
 PSigma λP:Nat->Prop=>PSigma λQ:Nat->Prop=>(∀u,P u)->(∀u,Q u)->Calls Tryz.prog 26 #[.string s] w (mr w (jr aL (bl s))):=by
 refine⟨?P,?Q,λaw av=> ?main⟩
 case main=>
  have bt:∀(fn:Fn) (first cap:Array Value) (w:World),(Instr.makeFunc fn first cap).run Tryz.prog w=.ok (.func fn first cap) w:=λ_ _ _ _=>rfl
  have br:¬(16384:Int)<(s.size:Int):=by omega
  have bf:=AF VA
  go_enter_defers Tryz.func26,Tryz.ntmps26
  go_wp2_with fail
  have a8:Below w.heap.size w ((w.alloc (.cells #[.slice none 0 0,.slice none 0 0] 25)).alloc (.cells #[.nilIface] 64)):=((AH w.heap.size w).alloc (AG _) _).alloc (by simp) _
  have aA:((w.alloc (.cells #[.slice none 0 0,.slice none 0 0] 25)).alloc (.cells #[.nilIface] 64)).heap.size=w.heap.size+2:=by simp
  have ba:((w.alloc (.cells #[.slice none 0 0,.slice none 0 0] 25)).alloc (.cells #[.nilIface] 64)).heap[w.heap.size]? =some (.cells #[.slice none 0 0,.slice none 0 0] 25 (0,0)):=
   (Below.heap_alloc _ _ _ (by simp)).trans (heap_alloc_new w _)
  have bc:((w.alloc (.cells #[.slice none 0 0,.slice none 0 0] 25)).alloc (.cells #[.nilIface] 64)).heap[w.heap.size+1]? =some (.cells #[.nilIface] 64 (0,0)):=by
   have:=heap_alloc_new (w.alloc (.cells #[.slice none 0 0,.slice none 0 0] 25)) (.cells #[.nilIface] 64)
   rwa[show(w.alloc (.cells #[.slice none 0 0,.slice none 0 0] 25)).heap.size=w.heap.size+1 by simp]at this
  have aS:=AF a8
  have bg:=AF ba
  have bi:=AF bc
  have an:=AF aA
  clear a8 ba bc aA
  refine(bf.out _ (aV.below aS.out)).mono ?_
  rintro e w1 ⟨al,rfl⟩
  have a6:=(al.block w.heap.size (by rw[an.out];omega)).trans bg.out
  have a7:=(al.block (w.heap.size+1) (by rw[an.out];omega)).trans bi.out
  have am:Below w.heap.size w w1:=aS.out.trans (al.mono (by rw[an.out];omega))
  have R:w.heap.size+2<=w1.heap.size:=by have:=al.size;rw[an.out]at this;exact this
  have aa:=AF am
  have U:=AF a6
  have Y:=AF a7
  have M:=aV.1.below am
  clear a6 a7 am al aS bg bi an bf
  have bh:=AF (RdG.start w1)
  go_wp2_with fail
  generalize hW:World.alloc (World.alloc (World.alloc w1 _) _) _=W1
  obtain⟨bx,aD⟩:∃bx,w1.heap.size+1+1=bx:=⟨_,rfl⟩
  have aU:RdM w1.heap.size 0 bx St.start W1:=by
   rw[<-hW,←aD]
   exact⟨_,_,_,_,_,bh.out⟩
  rw[aD]
  have aZ:Below w1.heap.size w1 W1:=by
   rw[<-hW]
   exact(((AH w1.heap.size w1).alloc (AG _) _).alloc (by simp) _).alloc (by simp;omega) _
  have aR:=AF aZ
  clear hW bh aZ aD
  obtain⟨RR,aG⟩:∃RR,readF s.size (bl s) 0 St.start=RR:=⟨_,rfl⟩
  have aM:=AF aG
  have W:Hid (jr aL (bl s)=RR.bind (gY s.size)):=by
   unfold Hid jr
   rw[fH,if_neg (by omega),hb,←aG]
  clear aG
  go_loopw [5] (λv5 wr=>PrR s w1.heap.size bx w1 RR v5 wr) (λv5 _=>s.size - (intOf v5).toNat)
  case atStart=>exact⟨0,St.start,rfl,Nat.zero_le _,aU,aR.out,aM.out⟩
  case round=>
   obtain⟨k,st,rfl,hk,aW,aE,HQ⟩:=hrel
   have ag:=AF aW
   have ar:=AF aE
   have af:Sh wr:=M.below aE
   clear aU aW aE
   by_cases aY:k<s.size
   · have aX:(k:Int)<(s.size:Int):=by omega
     have aF:(s.extract k s.size).size=s.size - k:=by simp
     have hX:bl (s.extract k s.size)=(bl s).drop k:=by unfold bl;rw[Lib.extract_to_end]
     have ax:(bl s).drop k≠[]:=by intro e;have:=congrArg List.length e;simp[bl]at this;omega
     have hstep:=qU s.size ((bl s).drop k) k st ax (by simp[bl])
     rw[HQ.out]at hstep
     cases hc:gq 123 ((bl s).drop k)with
     | none=>
       rw[hc]at hstep
       dsimp only at hstep
       have HE:=AF hstep
       have CU:=AF (jW 123 (s.extract k s.size) (by omega) wr af (by rw[hX];exact hc))
       obtain⟨A,hA⟩:∃A,s.extract k s.size=A:=⟨_,rfl⟩
       have bj:Hid (Calls Tryz.prog 45 #[.string (s.extract k s.size),.string ⟨#[123,123]⟩] wr λe w'=>e=.returned (.tuple #[.string A,.string ⟨#[]⟩,.bool false])/\Sl wr w'):=by
        unfold Hid
        rw[<-hA]
        exact CU.out
       have bd:A.size=s.size - k:=by rw[<-hA];exact aF
       have aK:A.toList.isEmpty=false:=by rw[<-hA,ByteArray.toList_eq];show(bl (s.extract k s.size)).isEmpty=false;rw[hX];cases hd:(bl s).drop k with | nil=>exact absurd hd ax | cons a r=>rfl
       have be:(bl s).drop k=bl A:=by rw[<-hA,hX]
       rw[be]at hstep
       have HE:=AF hstep
       clear CU hA hX aF ax hc be hstep
       go_wp2_with fail
       refine bj.out.mono ?_
       rintro e w2 ⟨rfl,m⟩
       have ah:Hid (RdM w1.heap.size (3*k) bx st w2):=by
        obtain⟨o,bs,sv,dv,cv,hg⟩:=ag.out
        exact⟨o,bs,sv,dv,cv,hg.same (m.same (λ_=>True) o) (λ_=>trivial) (AG _)⟩
       have Z:=AF (ar.out.trans (m.below w1.heap.size))
       clear m bj
       have AD:Hid (Calls Tryz.prog 46 #[.pointer (some ⟨bx,0,none⟩),.agg #[.int .u8 1,.int .i64 (k:Nat),.string A,.bool false,.slice none 0 0,.string ⟨#[]⟩,.slice none 0 0,.slice none 0 0]] w2 (ew w1.heap.size (3*k+1) bx w2 RR)):=by
        obtain⟨o,bs,sv,dv,cv,hg⟩:=ah.out
        have:=iv w1.heap.size (3*k) bx (by omega) st (ga k (bl A)) k (by omega) rfl o bs sv dv cv (.slice none 0 0) w2 hg (Strs.nil _ _)
        have he:(ga k (bl A)).text=A:=gW A
        rw[he]at this
        unfold Hid
        rw[HE.out]
        exact this
       go_wp2_with fail
       refine AD.out.mono ?_
       rintro e w3 ⟨ak,h3⟩
       have ac:=AF (Z.out.trans ak)
       clear ak AD
       cases hR:RR with
       | err ee ii=>
         rw[hR]at h3
         have h4:e=.panicked [{v:=.iface 84 (.agg #[.int .i64 (ee:Nat),.int .i64 (ii:Nat)]),recovered:=false}]:=h3
         subst h4
         have V:=AF hR
         clear h3 hR
         go_wp2_with fail
         exact fx ee ii R aa.out U.out Y.out ac.out rfl rfl rfl (by rw[W.out,V.out];rfl)
       | ok O=>
         rw[hR]at h3
         obtain⟨rfl,h4⟩:=h3
         have aB:=AF h4
         have V:=AF hR
         clear h4 hR
         go_upto_region 18 with(fail)
         have ap:=AF (aB.out.mono (show 3*k+1<=3*s.size+1 by omega))
         rename_i K3 bq Q2 K2 aH K1 aI K0 aJ
         obtain⟨u,hu⟩:∃u:Nat,u=0:=⟨0,rfl⟩
         have HC:=av u
         clear hu av aw aH K2 Q2 K3 bq HE ah Z ag ar HQ af aM aR W1 w2 aK bd aY aX hk aB
         revert w1 R aa U Y M bx RR W wr u6 u7 u8 u9 u10 u11 u27 u28 u29 u30 u31 u32 u33 u34 u35 u36 u37 u38 u39 u40 u41 u42 u43 u44 u45 u46 u47 u48 u49 u50 u51 u52 u53 u54 u55 u56 u57 u58 u59 u60 u61 u62 u63 u64 u65 u66 u67 u68 u69 u70 u71 k st A w3 ac O V K1 aI K0 aJ ap
         exact HC
     | some q=>
       obtain⟨a,r⟩:=q
       rw[hc]at hstep
       dsimp only at hstep
       obtain⟨aC,-,-⟩:=fN 123 _ _ _ hc
       have bu:k+(a.length+2+r.length)=s.size:=by
        have h1:=congrArg List.length aC
        rw[List.length_drop,fH]at h1
        simp only[List.length_append,List.length_cons]at h1
        omega
       have HD:=AF aC
       have CU:=AF (jV 123 (s.extract k s.size) (by omega) a r wr af (by rw[hX];exact hc))
       obtain⟨A,hA⟩:∃A,mkB a=A:=⟨_,rfl⟩
       obtain⟨Rr,ay⟩:∃Rr,mkB r=Rr:=⟨_,rfl⟩
       rw[hA,ay]at CU
       have bd:A.size=a.length:=by rw[<-hA];exact fi a
       have bv:Rr.size=r.length:=by rw[<-ay];exact fi r
       have aT:Hid (bl A=a):=by unfold Hid;rw[<-hA];rfl
       have az:Hid (bl Rr=r):=by unfold Hid;rw[<-ay];rfl
       clear hA ay hX aF ax hc aC
       by_cases ha:a=[]
       · have aK:A.toList.isEmpty=true:=by rw[ByteArray.toList_eq];show(bl A).isEmpty=true;rw[aT.out,ha];rfl
         rw[if_pos ha,Rs.ok_bind]at hstep
         clear ha
         go_wp2_with fail
         refine CU.out.mono ?_
         rintro e w2 ⟨rfl,m⟩
         have ah:Hid (RdM w1.heap.size (3*k) bx st w2):=by
          obtain⟨o,bs,sv,dv,cv,hg⟩:=ag.out
          exact⟨o,bs,sv,dv,cv,hg.same (m.same (λ_=>True) o) (λ_=>trivial) (AG _)⟩
         have Z:=AF (ar.out.trans (m.below w1.heap.size))
         clear m CU
         have G:Sh w2:=M.below Z.out
         have ae:=AF (λ(hc:gq 125 r=none)=>jW 125 Rr (by omega) w2 G (by rw[az.out];exact hc))
         have ad:=AF (λ(i r2:By) (hc:gq 125 r=some (i,r2))=>jV 125 Rr (by omega) i r2 w2 G (by rw[az.out];exact hc))
         cases E:gq 125 r with
         | none=>
           rw[E]at hstep
           dsimp only at hstep
           have HE:=AF hstep
           have K:=AF (ae.out E)
           clear ae ad E hstep G
           go_wp2_with fail
           refine K.out.mono ?_
           rintro e w5 ⟨rfl,m⟩
           have N:=AF (Z.out.trans (m.below w1.heap.size))
           clear m K
           go_wp2_with fail
           have e1:((k:Int)+(a.length:Int))=((k+a.length:Nat):Int):=by omega
           rw[e1]
           exact fx 191 (k+a.length) R aa.out U.out Y.out N.out rfl rfl rfl (by rw[W.out,HE.out];rfl)
         | some q2=>
           obtain⟨i,r2⟩:=q2
           rw[E]at hstep
           dsimp only at hstep
           obtain⟨ab,-,-⟩:=fN 125 _ _ _ E
           have bk:r.length=i.length+2+r2.length:=by rw[ab];simp;omega
           have K:=AF (ad.out i r2 E)
           obtain⟨I,hI⟩:∃I,mkB i=I:=⟨_,rfl⟩
           have bo:I.size=i.length:=by rw[<-hI];exact fi i
           have aP:Hid (bl I=i):=by unfold Hid;rw[<-hI];rfl
           rw[hI]at K
           have aQ:Hid ((bl s).drop (k+a.length+i.length+4)=r2):=by
            unfold Hid
            rw[show k+a.length+i.length+4=k+(a.length+2+(i.length+2)) by omega,←List.drop_drop,HD.out,ab]
            rw[show a.length+2+(i.length+2)=a.length+(2+(i.length+2)) by omega,←List.drop_drop,List.drop_left]
            rw[show 2+(i.length+2)=(i.length+2)+1+1 by omega,List.drop_succ_cons,List.drop_succ_cons,←List.drop_drop,List.drop_left]
            rfl
           have HE:=AF hstep
           clear ae ad E hstep G ab hI
           go_wp2_with fail
           refine K.out.mono ?_
           rintro e w5 ⟨rfl,m⟩
           have aN:Hid (RdM w1.heap.size (3*k) bx st w5):=by
            obtain⟨o,bs,sv,dv,cv,hg⟩:=ah.out
            exact⟨o,bs,sv,dv,cv,hg.same (m.same (λ_=>True) o) (λ_=>trivial) (AG _)⟩
           have N:=AF (Z.out.trans (m.below w1.heap.size))
           clear m K
           have AC:Hid (Calls Tryz.prog 47 #[.pointer (some ⟨bx,0,none⟩),.string I,.int .i64 ((k:Int)+(a.length:Int))] w5 (ew w1.heap.size (3*k+2) bx w5 (action i (k+a.length) st))):=by
            have:=kg w1.heap.size (3*k) bx (by omega) I (by omega) (k+a.length) (by omega) st w5 aN.out (M.below N.out)
            rw[aP.out,show((k+a.length:Nat):Int)=(k:Int)+(a.length:Int) by omega]at this
            exact this
           go_wp2_with fail
           refine AC.out.mono ?_
           rintro e w6 ⟨aj,h6⟩
           have au:=AF (N.out.trans aj)
           clear aj AC
           cases J:action i (k+a.length) st with
           | err ee ii=>
             rw[J]at h6
             have h7:e=.panicked [{v:=.iface 84 (.agg #[.int .i64 (ee:Nat),.int .i64 (ii:Nat)]),recovered:=false}]:=h6
             subst h7
             have aq:=AF J
             clear h6 J
             go_wp2_with fail
             exact fx ee ii R aa.out U.out Y.out au.out rfl rfl rfl (by rw[W.out,HE.out];show((action i (k+a.length) st).bind _).bind _=_;rw[aq.out];rfl)
           | ok ai=>
             rw[J]at h6
             obtain⟨rfl,h7⟩:=h6
             have aO:Hid (readF s.size ((bl s).drop (k+a.length+i.length+4)) (k+a.length+i.length+4) ai=RR):=by
              unfold Hid
              rw[aQ.out,HE.out]
              show _=(action i (k+a.length) st).bind _
              rw[J];rfl
             have ao:=AF (h7.mono (show 3*k+2<=3*(k+a.length+i.length+4) by omega))
             clear h7 J
             go_wp2_with fail
             go_roundw
             case rel=>exact PrR.mk (k+a.length+i.length+4) ai (by omega) (by omega) ao.out au.out aO
             case measure=>simp[intOf];omega
       · have aK:A.toList.isEmpty=false:=by rw[ByteArray.toList_eq];show(bl A).isEmpty=false;rw[aT.out];cases a with | nil=>exact absurd rfl ha | cons a r=>rfl
         rw[if_neg ha]at hstep
         clear ha
         go_wp2_with fail
         refine CU.out.mono ?_
         rintro e w2 ⟨rfl,m⟩
         have ah:Hid (RdM w1.heap.size (3*k) bx st w2):=by
          obtain⟨o,bs,sv,dv,cv,hg⟩:=ag.out
          exact⟨o,bs,sv,dv,cv,hg.same (m.same (λ_=>True) o) (λ_=>trivial) (AG _)⟩
         have Z:=AF (ar.out.trans (m.below w1.heap.size))
         clear m CU
         have AD:Hid (Calls Tryz.prog 46 #[.pointer (some ⟨bx,0,none⟩),.agg #[.int .u8 1,.int .i64 (k:Nat),.string A,.bool false,.slice none 0 0,.string ⟨#[]⟩,.slice none 0 0,.slice none 0 0]] w2 (ew w1.heap.size (3*k+1) bx w2 (st.add (ga k a) k))):=by
          obtain⟨o,bs,sv,dv,cv,hg⟩:=ah.out
          have:=iv w1.heap.size (3*k) bx (by omega) st (ga k a) k (by omega) rfl o bs sv dv cv (.slice none 0 0) w2 hg (Strs.nil _ _)
          have he:(ga k a).text=A:=by show mkB a=A;rw[<-aT.out];exact gW A
          rw[he]at this
          exact this
         go_wp2_with fail
         refine AD.out.mono ?_
         rintro e w3 ⟨ak,h3⟩
         have ac:=AF (Z.out.trans ak)
         clear ak AD
         cases hR:st.add (ga k a) k with
         | err ee ii=>
           rw[hR]at h3 hstep
           have h4:e=.panicked [{v:=.iface 84 (.agg #[.int .i64 (ee:Nat),.int .i64 (ii:Nat)]),recovered:=false}]:=h3
           subst h4
           have HE:=AF hstep
           clear h3 hR hstep
           go_wp2_with fail
           exact fx ee ii R aa.out U.out Y.out ac.out rfl rfl rfl (by rw[W.out,HE.out];rfl)
         | ok O=>
           rw[hR]at h3 hstep
           rw[Rs.ok_bind]at hstep
           obtain⟨rfl,h4⟩:=h3
           have bp:=AF h4
           clear h4 hR
           have G:Sh w3:=M.below ac.out
           have ae:=AF (λ(hc:gq 125 r=none)=>jW 125 Rr (by omega) w3 G (by rw[az.out];exact hc))
           have ad:=AF (λ(i r2:By) (hc:gq 125 r=some (i,r2))=>jV 125 Rr (by omega) i r2 w3 G (by rw[az.out];exact hc))
           cases E:gq 125 r with
           | none=>
             rw[E]at hstep
             dsimp only at hstep
             have HE:=AF hstep
             have K:=AF (ae.out E)
             clear ae ad E hstep G
             go_wp2_with fail
             refine K.out.mono ?_
             rintro e w5 ⟨rfl,m⟩
             have N:=AF (ac.out.trans (m.below w1.heap.size))
             clear m K
             go_wp2_with fail
             have e1:((k:Int)+(a.length:Int))=((k+a.length:Nat):Int):=by omega
             rw[e1]
             exact fx 191 (k+a.length) R aa.out U.out Y.out N.out rfl rfl rfl (by rw[W.out,HE.out];rfl)
           | some q2=>
             obtain⟨i,r2⟩:=q2
             rw[E]at hstep
             dsimp only at hstep
             obtain⟨ab,-,-⟩:=fN 125 _ _ _ E
             have bk:r.length=i.length+2+r2.length:=by rw[ab];simp;omega
             have K:=AF (ad.out i r2 E)
             obtain⟨I,hI⟩:∃I,mkB i=I:=⟨_,rfl⟩
             have bo:I.size=i.length:=by rw[<-hI];exact fi i
             have aP:Hid (bl I=i):=by unfold Hid;rw[<-hI];rfl
             rw[hI]at K
             have aQ:Hid ((bl s).drop (k+a.length+i.length+4)=r2):=by
              unfold Hid
              rw[show k+a.length+i.length+4=k+(a.length+2+(i.length+2)) by omega,←List.drop_drop,HD.out,ab]
              rw[show a.length+2+(i.length+2)=a.length+(2+(i.length+2)) by omega,←List.drop_drop,List.drop_left]
              rw[show 2+(i.length+2)=(i.length+2)+1+1 by omega,List.drop_succ_cons,List.drop_succ_cons,←List.drop_drop,List.drop_left]
              rfl
             have HE:=AF hstep
             clear ae ad E hstep G ab hI
             go_wp2_with fail
             refine K.out.mono ?_
             rintro e w5 ⟨rfl,m⟩
             have aN:Hid (RdM w1.heap.size (3*k+1) bx O w5):=by
              obtain⟨o,bs,sv,dv,cv,hg⟩:=bp.out
              exact⟨o,bs,sv,dv,cv,hg.same (m.same (λ_=>True) o) (λ_=>trivial) (AG _)⟩
             have N:=AF (ac.out.trans (m.below w1.heap.size))
             clear m K
             have AC:Hid (Calls Tryz.prog 47 #[.pointer (some ⟨bx,0,none⟩),.string I,.int .i64 ((k:Int)+(a.length:Int))] w5 (ew w1.heap.size (3*k+1+2) bx w5 (action i (k+a.length) O))):=by
              have:=kg w1.heap.size (3*k+1) bx (by omega) I (by omega) (k+a.length) (by omega) O w5 aN.out (M.below N.out)
              rw[aP.out,show((k+a.length:Nat):Int)=(k:Int)+(a.length:Int) by omega]at this
              exact this
             go_wp2_with fail
             refine AC.out.mono ?_
             rintro e w6 ⟨aj,h6⟩
             have au:=AF (N.out.trans aj)
             clear aj AC
             cases J:action i (k+a.length) O with
             | err ee ii=>
               rw[J]at h6
               have h7:e=.panicked [{v:=.iface 84 (.agg #[.int .i64 (ee:Nat),.int .i64 (ii:Nat)]),recovered:=false}]:=h6
               subst h7
               have aq:=AF J
               clear h6 J
               go_wp2_with fail
               exact fx ee ii R aa.out U.out Y.out au.out rfl rfl rfl (by rw[W.out,HE.out];show((action i (k+a.length) O).bind _).bind _=_;rw[aq.out];rfl)
             | ok ai=>
               rw[J]at h6
               obtain⟨rfl,h7⟩:=h6
               have aO:Hid (readF s.size ((bl s).drop (k+a.length+i.length+4)) (k+a.length+i.length+4) ai=RR):=by
                unfold Hid
                rw[aQ.out,HE.out]
                show _=(action i (k+a.length) O).bind _
                rw[J];rfl
               have ao:=AF (h7.mono (show 3*k+1+2<=3*(k+a.length+i.length+4) by omega))
               clear h7 J
               go_wp2_with fail
               go_roundw
               case rel=>exact PrR.mk (k+a.length+i.length+4) ai (by omega) (by omega) ao.out au.out aO
               case measure=>simp[intOf];omega
   · have bn:¬(k:Int)<(s.size:Int):=by omega
     go_upto_region 18 with(fail)
     have bm:k=s.size:=by omega
     have V:Hid (RR=.ok st):=by
      unfold Hid
      rw[<-HQ.out,List.drop_of_length_le (by rw[fH];omega),ig]
     have ap:=AF (ag.out.mono (show 3*k<=3*s.size+1 by omega))
     rename_i K3 Q2 K2 aH K1 aI K0 aJ
     obtain⟨u,hu⟩:∃u:Nat,u=0:=⟨0,rfl⟩
     have HC:=aw u
     clear hu av aw aH K2 Q2 K3 ag HQ af aM aR W1 aY bn hk bm
     revert w1 R aa U Y M bx RR W wr u6 u7 u8 u9 u10 u11 u27 u28 u29 u30 u31 u32 u33 u34 u35 u36 u37 u38 u39 u40 u41 u42 u43 u44 u45 u46 u47 u48 u49 u50 u51 u52 u53 u54 u55 u56 u57 u58 u59 u60 u61 u62 u63 u64 u65 u66 u67 u68 u69 u70 u71 k st ar K1 aI K0 aJ V ap
     exact HC
def CaR (w0:World)(st:St)(v:Value)(wr:World):Prop:=
 ∃j:Nat,v=.int .i64 (j:Nat)/\j<=st.calls.length/\Below w0.heap.size w0 wr/\Hid (gi st.defs (st.calls.drop j)=gi st.defs st.calls)
theorem qm {B q G E:Nat}{m:Nat->Nat}{w:World}{f:Fr}(h:FrM B m w q G E f):B<=E/\∃r A o,w.heap[E]? =some (.cells (frCells f r A o) 100 (0,0))/\oO B m w (6+2*G) o f.kids:=by
 obtain⟨K,R,O,r,A,o,J,N,M,I⟩:=h
 exact⟨K,r,A,o,J,I⟩
theorem nK {w w1 wr:World}{r:Rs Tm}{a:Act}{st:St}{q bx O:Nat}{o:Nat->Nat}{bs:List Nat}{sv m I cv:Value}(ab:w.heap.size+2<=w1.heap.size)(aa:Below w.heap.size w w1)(Z:Below w1.heap.size w1 wr)
 (hT:wr.heap[w.heap.size]? =some (.cells #[.slice none 0 0,.slice none 0 0] 25 (0,0))) (hE:wr.heap[w.heap.size+1]? =some (.cells #[.nilIface] 64 (0,0)))
 (K:RdG w1.heap.size q bx st o bs sv I cv wr) (hK:oO w1.heap.size o wr (6+2*O) m st.top.kids) (hd:a.defers=qt w.heap.size (w.heap.size+1)) (h2:a.tmps.getD 2 undef=.pointer (some ⟨w.heap.size,0,none⟩))
 (h3:a.tmps.getD 3 undef=.pointer (some ⟨w.heap.size+1,0,none⟩)) (hr:r=.ok ⟨st.top.kids,st.defs⟩):
 bodyPostD Tryz.prog Tryz.f26 (mr w r) .ret a ((((wr.setCell ⟨bx,1,none⟩ m).setCell ⟨w.heap.size,0,none⟩ m).setCell ⟨w.heap.size,1,none⟩ I).setCell ⟨w.heap.size+1,0,none⟩ .nilIface):=by
 have ac:=K.bb
 have n1:w.heap.size≠bx:=by omega
 have n2:w.heap.size+1≠bx:=by omega
 have N:∀b,b≠bx->b≠w.heap.size->b≠w.heap.size+1->((((wr.setCell ⟨bx,1,none⟩ m).setCell ⟨w.heap.size,0,none⟩ m).setCell ⟨w.heap.size,1,none⟩ I).setCell ⟨w.heap.size+1,0,none⟩ .nilIface).heap[b]? =wr.heap[b]? :=λb m1 m2 m3=>by
  rw[Below.heap_setCell _ _ _ _ m3,Below.heap_setCell _ _ _ _ m2,Below.heap_setCell _ _ _ _ m2,Below.heap_setCell _ _ _ _ m1]
 have V:((((wr.setCell ⟨bx,1,none⟩ m).setCell ⟨w.heap.size,0,none⟩ m).setCell ⟨w.heap.size,1,none⟩ I).setCell ⟨w.heap.size+1,0,none⟩ .nilIface).heap[w.heap.size]? =some (.cells #[m,I] 25 (0,0)):=by
  rw[Below.heap_setCell _ _ _ _ (by show w.heap.size≠w.heap.size+1;omega)]
  exact d7 (j:=1) (d7 (j:=0) ((Below.heap_setCell wr ⟨bx,1,none⟩ m _ n1).trans hT) m) I
 have W:((((wr.setCell ⟨bx,1,none⟩ m).setCell ⟨w.heap.size,0,none⟩ m).setCell ⟨w.heap.size,1,none⟩ I).setCell ⟨w.heap.size+1,0,none⟩ .nilIface).heap[w.heap.size+1]? =some (.cells #[.nilIface] 64 (0,0)):=by
  refine d7 (j:=0) (cs:=#[.nilIface]) ?_ .nilIface
  rw[Below.heap_setCell _ _ _ _ (by show w.heap.size+1≠w.heap.size;omega),Below.heap_setCell _ _ _ _ (by show w.heap.size+1≠w.heap.size;omega),Below.heap_setCell _ _ _ _ n2]
  exact hE
 have Y:Below w.heap.size w ((((wr.setCell ⟨bx,1,none⟩ m).setCell ⟨w.heap.size,0,none⟩ m).setCell ⟨w.heap.size,1,none⟩ I).setCell ⟨w.heap.size+1,0,none⟩ .nilIface):=
  ((((aa.trans (Z.mono (by omega))).setCell (by show w.heap.size<=bx;omega) _).setCell (AG _) _).setCell (AG _) _).setCell (Nat.le_succ _) _
 have U:((((wr.setCell ⟨bx,1,none⟩ m).setCell ⟨w.heap.size,0,none⟩ m).setCell ⟨w.heap.size,1,none⟩ I).setCell ⟨w.heap.size+1,0,none⟩ .nilIface).heap.size=wr.heap.size:=by simp[World.setCell]
 generalize ((((wr.setCell ⟨bx,1,none⟩ m).setCell ⟨w.heap.size,0,none⟩ m).setCell ⟨w.heap.size,1,none⟩ I).setCell ⟨w.heap.size+1,0,none⟩ .nilIface)=W4 at*
 refine nJ hd h2 h3 V W ?_
 rw[hr]
 have G:∀g,m.ownBlock=some g->o g=6+2*O:=by
  obtain⟨cs,⟨-,h⟩,-⟩:=hK
  exact h
 have A:∀g,m.ownBlock=some g->w1.heap.size<=g:=λg E=>by
  rcases Nat.lt_or_ge g w1.heap.size with h | h
  · have h1:=K.ol g h;have h5:=G g E;omega
  · exact h
 have J:∀b,lF o m b=0\/lF o m b=3->w.heap.size<=b:=λb M=>by
  rcases Nat.lt_or_ge b w1.heap.size with h | h
  · have h1:=K.ol b h
    have h5:lF o m b=o b:=if_neg (λe=>by have:=A b e;omega)
    omega
  · omega
 have hS:gA (λc=>c≠1/\c≠6+2*O) o (lF o m) wr W4:=⟨by rw[U];exact AG _,λb M R=>⟨iE G R.2,N b (λe=>R.1 (by rw[e];exact K.cx)) (λe=>R.1 (K.ol b (by omega))) (λe=>R.1 (K.ol b (by omega)))⟩⟩
 have c0:(λc=>c≠1/\c≠6+2*O) 0:=⟨by omega,by omega⟩
 have hP:=iA hK hS c0 (λg E=>N g (λe=>by have:=G g E;rw[e,K.cx]at this;omega) (λe=>by have:=A g E;omega) (λe=>by have:=A g E;omega))
 have hD:=(K.df.same hS c0 ⟨by omega,by omega⟩).defs
 exact⟨Y,m,I,rfl,hP.mono (λb M=>⟨J b (.inl M.1),M.2⟩),hD.mono (λb M=>⟨J b M.1,M.2⟩)⟩
theorem wW (al:By->Option Nat)(s:ByteArray)(hs:s.size<=16384)(w:World)(aH:Gd w)(hb:al (bl s)=none)(VA:∀w,Gd w->Calls Tryz.prog 44 #[.string s] w (qF w none)):∀u,(jq al s hs w aH hb VA).1 u:=by
 unfold jq
 intro u w1 ag ar am ap aQ bx RR aE wq u6 u7 u8 u9 bO bN bM bL bK bJ bI bH bG bF bE bD bC bB bA bz bw bv bu bt br bq bp bo bn bm bk bj bi bh bg bf be bd bc ba a8 a7 a6 aZ aY aX aW aV aU aT aS k st A K1 bY K0 bZ ad ae
 clear hb VA
 have an:Hid (jr al (bl s)=gY s.size st):=by unfold Hid;rw[aE.out,ad.out];rfl
 clear aE ad
 obtain⟨N,bs,sv,dv,cv,hg⟩:=ae.out
 clear ae
 obtain⟨c0,c1,c2,c3,c4,fz⟩:=hg.cells
 obtain⟨fb,b0,g,c,rfl,hl,rfl,bU,bT,bS,hF,-,aj⟩:=hg.top
 have bP:=hg.l2
 by_cases hr:st.rest=[]
 · have av:st.rest.length=0:=by rw[hr];rfl
   have aF:Hid (gY s.size st=match gi st.defs st.calls with | some p=>.err 195 p | none=>.ok ⟨st.top.kids,st.defs⟩):=if_neg (by simp[hr])
   have tl:¬(1:Int)<(st.rest.length:Int)+1:=by omega
   obtain⟨ca,cc,rfl⟩:=(show ∃a k,cv=.slice a st.calls.length k by obtain⟨cs,h,-⟩:=hg.cl;exact h.slice)
   have HG:=AF hg
   have HF:=AF hF
   have aC:=AF av
   clear hr av hg hF
   have aJ:st.defs.length<=140737488351232:=by have:=HG.out.l3;omega
   have bR:st.calls.length<=3*s.size+1:=HG.out.l4
   have G:=dX HG.out.hx
   go_wp2_with fail
   go_loopw [87] (λaf aG=>CaR wq st af aG) (λaf _=>st.calls.length - (intOf af).toNat)
   case atStart=>exact⟨0,rfl,Nat.zero_le _,AH _ _,rfl⟩
   case round=>
    obtain⟨j,rfl,hj,ay,HN⟩:=hrel
    have m:=AF ay
    clear ay
    by_cases ah:j<st.calls.length
    · obtain⟨cx,U⟩:∃cx,st.calls[j]? =some cx:=⟨_,List.getElem?_eq_getElem ah⟩
      have aR:(j:Int)<(st.calls.length:Int):=by omega
      obtain⟨cs,⟨ab,aw⟩,aa⟩:=HG.out.cl
      obtain⟨root,va,vl,vc,k0,k1,k2,k3,k4,k5,k6,k7⟩:=kw.at _ _ j cx U aa
      obtain⟨gc,cap,aK,-,ai,-,-,K⟩:=ownsRow.elems ab (by omega)
      injection aK with e1 e2 e3
      subst e1;subst e3
      have Y:∀i u,cs[j*8+i]? =some u->wr.cell? ⟨gc,j*8+i,none⟩=some u:=λi u hu=>(m.out.cell (p:=⟨gc,j*8+i,none⟩) ai).trans (K _ _ hu)
      have p0:wr.cell? ⟨gc,j*8,none⟩=some (.int .u8 5):=Y 0 _ k0
      have p1:=Y 1 _ k1
      have p2:=Y 2 _ k2
      have p3:=Y 3 _ k3
      have p4:=Y 4 _ k4
      have p5:=Y 5 _ k5
      have p6:=Y 6 _ k6
      have p7:=Y 7 _ k7
      obtain⟨X,hX⟩:∃X,mkB cx.1=X:=⟨_,rfl⟩
      rw[hX]at p5
      have aL:=(m.out.cell (p:=⟨bx,2,none⟩) G).trans c2
      have ax:bx<wr.heap.size:=AI G m.out.size
      have Z:∀ob,(wr.alloc ob).cell? ⟨bx,2,none⟩=some dv:=λob=>(World.cell?_alloc_old _ _ _ (Nat.ne_of_lt ax)).trans aL
      have az:bl X=cx.1:=by rw[<-hX];rfl
      have DE:=AF (λ(W:World) (hb:Below wq.heap.size wq W)=>gm (OkD N W) st.defs aJ X dv W
       ((HG.out.same (q':=3*s.size+1) (show gA (λ_=>True) N N wq W from⟨hb.size,λb h _=>⟨rfl,hb.block b h⟩⟩) (λ_=>trivial) (AG _)).df.defs) (λb hb=>hb.2))
      rw[az]at DE
      have R:st.calls.drop j=cx::st.calls.drop (j+1):=by
       rw[List.drop_eq_getElem_cons ah]
       rw[List.getElem?_eq_getElem ah]at U
       injection U with e
       rw[e]
      have bX:(cx.2:Int)=((cx.2:Nat):Int):=rfl
      clear ab aw aa k0 k1 k2 k3 k4 k5 k6 k7 K Y U hX az
      cases hd:eE st.defs cx.1 with
      | true=>
        rw[hd]at DE
        have ao:Hid (gi st.defs (st.calls.drop (j+1))=gi st.defs st.calls):=by
         unfold Hid
         rw[<-HN.out,R,gi,if_pos hd]
        clear hd R
        go_wp2_with fail
        have o:=heap_alloc_new wr (.cells #[.int .u8 5,.int .i64 (cx.2:Nat),.string ⟨#[]⟩,.bool root,.slice va vl vc,.string X,.slice none 0 0,.slice none 0 0] 56)
        have E:=m.out.trans ((AH wr.heap.size wr).alloc (AG _) (.cells #[.int .u8 5,.int .i64 (cx.2:Nat),.string ⟨#[]⟩,.bool root,.slice va vl vc,.string X,.slice none 0 0,.slice none 0 0] 56) |>.mono m.out.size)
        have ak:=Z (.cells #[.int .u8 5,.int .i64 (cx.2:Nat),.string ⟨#[]⟩,.bool root,.slice va vl vc,.string X,.slice none 0 0,.slice none 0 0] 56)
        generalize M:wr.alloc _=W2
        rw[M]at o E ak
        have r:=AF E
        have q5:W2.cell? ⟨wr.heap.size,5,none⟩=some (.string X):=by rw[dW o];rfl
        have aD:=AF o
        have ac:wr.heap.size<W2.heap.size:=dX o
        clear M E o p0 p1 p2 p3 p4 p5 p6 p7 Z
        refine wp_region_noPanic ?_
        go_region_with (go_at_call 48;refine(DE.out _ (r.out.trans ((Sl.drew _).below _))).mono ?_;rintro e w2 ⟨rfl,J⟩)
        all_goals
         refine NoPanic.normal ?_
         have aq:=AF (r.out.trans (((Sl.drew W2).below wq.heap.size).trans (J.mono r.out.size)))
         clear J
         go_wp2_with fail
         go_roundw
         case rel=>exact⟨j+1,by go_num,by omega,aq.out,ao⟩
         case measure=>simp[intOf];omega
      | false=>
        rw[hd]at DE
        have ao:Hid (gi st.defs st.calls=some cx.2):=by
         unfold Hid
         rw[<-HN.out,R,gi,if_neg (by rw[hd];decide)]
        have HE:Hid (gY s.size st=.err 195 cx.2):=by unfold Hid;rw[aF.out,ao.out]
        clear hd R
        go_wp2_with fail
        have o:=heap_alloc_new wr (.cells #[.int .u8 5,.int .i64 (cx.2:Nat),.string ⟨#[]⟩,.bool root,.slice va vl vc,.string X,.slice none 0 0,.slice none 0 0] 56)
        have E:=m.out.trans ((AH wr.heap.size wr).alloc (AG _) (.cells #[.int .u8 5,.int .i64 (cx.2:Nat),.string ⟨#[]⟩,.bool root,.slice va vl vc,.string X,.slice none 0 0,.slice none 0 0] 56) |>.mono m.out.size)
        have ak:=Z (.cells #[.int .u8 5,.int .i64 (cx.2:Nat),.string ⟨#[]⟩,.bool root,.slice va vl vc,.string X,.slice none 0 0,.slice none 0 0] 56)
        generalize M:wr.alloc _=W2
        rw[M]at o E ak
        have r:=AF E
        have q5:W2.cell? ⟨wr.heap.size,5,none⟩=some (.string X):=by rw[dW o];rfl
        have aD:=AF o
        have ac:wr.heap.size<W2.heap.size:=dX o
        clear M E o p0 p1 p2 p3 p4 p5 p6 p7 Z
        refine wp_region_noPanic ?_
        go_region_with (go_at_call 48;refine(DE.out _ (r.out.trans ((Sl.drew _).below _))).mono ?_;rintro e w2 ⟨rfl,J⟩)
        all_goals
         refine NoPanic.normal ?_
         have aq:=AF (r.out.trans (((Sl.drew W2).below wq.heap.size).trans (J.mono r.out.size)))
         have aA:=(J.block wr.heap.size ac).trans (((Sl.drew W2).below (wr.heap.size+1)).block _ (Nat.lt_succ_self _) |>.trans aD.out)
         have q1:w2.cell? ⟨wr.heap.size,1,none⟩=some (.int .i64 (cx.2:Nat)):=by rw[dW aA];rfl
         clear J aA
         go_wp2_with fail
         exact fx 195 cx.2 ag ar.out am.out ap.out (A.out.trans (aq.out.mono (by have:=A.out.size;omega))) rfl rfl rfl (by rw[an.out,HE.out])
    · have bQ:¬(j:Int)<(st.calls.length:Int):=by omega
      have aO:Hid (gY s.size st=.ok ⟨st.top.kids,st.defs⟩):=by
       have:=HN.out
       rw[show st.calls.drop j=[]from List.drop_eq_nil_of_le (by omega)]at this
       unfold Hid
       rw[aF.out,←this]
       rfl
      obtain⟨kb,vn,vk,kv,kh,hK⟩:=qm HF.out
      obtain⟨ka,kc,rfl⟩:=hK.slice
      obtain⟨da,dc,rfl⟩:=(show ∃a k,dv=.slice a st.defs.length k by obtain⟨cs,h,-⟩:=HG.out.df;exact h.slice)
      have HK:=AF hK
      have ai:=ej aj
      have aI:=dX kh
      have d0:wr.cell? ⟨bx,0,none⟩=some (.slice (some ⟨g,0,none⟩) 1 c):=by rw[m.out.cell (p:=⟨bx,0,none⟩) G,c0,aC.out]
      have dg:wr.cell? ⟨g,0,none⟩=some (.pointer (some ⟨fb,0,none⟩)):=by rw[m.out.cell (p:=⟨g,0,none⟩) ai];have:=aj;rwa[aC.out]at this
      have au:=(m.out.block fb aI).trans kh
      have dk:wr.cell? ⟨fb,13,none⟩=some (.slice ka st.top.kids.len kc):=by rw[dW au];rfl
      have O:=(m.out.block bx G).trans HG.out.hx
      have I:=(m.out.block w.heap.size (by have:=A.out.size;omega)).trans ((A.out.block _ (by omega)).trans am.out)
      have V:=(m.out.block (w.heap.size+1) (by have:=A.out.size;omega)).trans ((A.out.block _ (by omega)).trans ap.out)
      have bW:=HG.out.bb
      have n1:w.heap.size≠bx:=by omega
      have n2:w.heap.size+1≠bx:=by omega
      have b1:=AF O
      have aM:=AF I
      have aP:=AF V
      have d1:wr.cell? ⟨bx,1,none⟩=some (.slice none 0 0):=by rw[dW O];rfl
      have d2:wr.cell? ⟨bx,2,none⟩=some (.slice da st.defs.length dc):=by rw[dW O];rfl
      have t0:wr.cell? ⟨w.heap.size,0,none⟩=some (.slice none 0 0):=by rw[dW I];rfl
      have t1:wr.cell? ⟨w.heap.size,1,none⟩=some (.slice none 0 0):=by rw[dW I];rfl
      have e0:wr.cell? ⟨w.heap.size+1,0,none⟩=some .nilIface:=by rw[dW V];rfl
      have f1:wr.frozen? ⟨bx,1,none⟩=false:=by rw[dY O]
      have f2:wr.frozen? ⟨w.heap.size,0,none⟩=false:=by rw[dY I]
      have f3:wr.frozen? ⟨w.heap.size,1,none⟩=false:=by rw[dY I]
      have f4:wr.frozen? ⟨w.heap.size+1,0,none⟩=false:=by rw[dY V]
      have aN:=AF (A.out.trans (m.out.mono A.out.size))
      have aB:Hid (gA (λ_=>True) N N wq wr):=⟨m.out.size,λb h _=>⟨rfl,m.out.block b h⟩⟩
      clear c0 c1 c2 c3 c4 fz aj kh au O I V hK
      go_wp2_with fail
      exact nK ag ar.out aN.out aM.out aP.out (HG.out.same aB.out (λ_=>trivial) (AG _)) (HK.out.same aB.out trivial trivial) rfl rfl rfl (by rw[an.out,aO.out])
 · have HE:Hid (gY s.size st=.err 192 s.size):=if_pos hr
   have tl:(1:Int)<(st.rest.length:Int)+1:=by have:=List.length_pos_iff.2 hr;omega
   clear hr hg hF
   go_wp2_with fail
   exact fx 192 s.size ag ar.out am.out ap.out A.out rfl rfl rfl (by rw[an.out,HE.out])
theorem wV (am:By->Option Nat)(s:ByteArray)(hs:s.size<=16384)(w:World)(aI:Gd w)(hb:am (bl s)=none)(VA:∀w,Gd w->Calls Tryz.prog 44 #[.string s] w (qF w none)):∀u,(jq am s hs w aI hb VA).2.1 u:=by
 unfold jq
 intro u w1 ah au an aq aR bx RR aF aT u6 u7 u8 u9 bQ bP bO bN bM bL bK bJ bI bH bG bF bE bD bC bB bA bz bw bv bu bt br bq bp bo bn bm bk bj bi bh bg bf be bd bc ba a8 a7 a6 aZ aY aX aW aV aU k bR A wq E st ae K1 b1 K0 b2 af
 clear hb VA
 have ao:Hid (jr am (bl s)=gY s.size st):=by unfold Hid;rw[aF.out,ae.out];rfl
 clear aF ae
 obtain⟨O,bs,sv,dv,cv,hg⟩:=af.out
 clear af
 obtain⟨c0,c1,c2,c3,c4,fz⟩:=hg.cells
 obtain⟨fb,b3,g,c,rfl,hl,rfl,bY,bX,bW,hF,-,ak⟩:=hg.top
 have bS:=hg.l2
 by_cases hr:st.rest=[]
 · have aw:st.rest.length=0:=by rw[hr];rfl
   have aG:Hid (gY s.size st=match gi st.defs st.calls with | some p=>.err 195 p | none=>.ok ⟨st.top.kids,st.defs⟩):=if_neg (by simp[hr])
   have tl:¬(1:Int)<(st.rest.length:Int)+1:=by omega
   obtain⟨ca,cc,rfl⟩:=(show ∃a k,cv=.slice a st.calls.length k by obtain⟨cs,h,-⟩:=hg.cl;exact h.slice)
   have HG:=AF hg
   have HF:=AF hF
   have aD:=AF aw
   clear hr aw hg hF
   have aK:st.defs.length<=140737488351232:=by have:=HG.out.l3;omega
   have bU:st.calls.length<=3*s.size+1:=HG.out.l4
   have I:=dX HG.out.hx
   go_wp2_with fail
   go_loopw [87] (λag aH=>CaR wq st ag aH) (λag _=>st.calls.length - (intOf ag).toNat)
   case atStart=>exact⟨0,rfl,Nat.zero_le _,AH _ _,rfl⟩
   case round=>
    obtain⟨j,rfl,hj,az,HN⟩:=hrel
    have m:=AF az
    clear az
    by_cases ai:j<st.calls.length
    · obtain⟨cx,V⟩:∃cx,st.calls[j]? =some cx:=⟨_,List.getElem?_eq_getElem ai⟩
      have aS:(j:Int)<(st.calls.length:Int):=by omega
      obtain⟨cs,⟨ac,ax⟩,ab⟩:=HG.out.cl
      obtain⟨root,va,vl,vc,k0,k1,k2,k3,k4,k5,k6,k7⟩:=kw.at _ _ j cx V ab
      obtain⟨gc,cap,aL,-,aj,-,-,M⟩:=ownsRow.elems ac (by omega)
      injection aL with e1 e2 e3
      subst e1;subst e3
      have Z:∀i u,cs[j*8+i]? =some u->wr.cell? ⟨gc,j*8+i,none⟩=some u:=λi u hu=>(m.out.cell (p:=⟨gc,j*8+i,none⟩) aj).trans (M _ _ hu)
      have p0:wr.cell? ⟨gc,j*8,none⟩=some (.int .u8 5):=Z 0 _ k0
      have p1:=Z 1 _ k1
      have p2:=Z 2 _ k2
      have p3:=Z 3 _ k3
      have p4:=Z 4 _ k4
      have p5:=Z 5 _ k5
      have p6:=Z 6 _ k6
      have p7:=Z 7 _ k7
      obtain⟨X,hX⟩:∃X,mkB cx.1=X:=⟨_,rfl⟩
      rw[hX]at p5
      have aM:=(m.out.cell (p:=⟨bx,2,none⟩) I).trans c2
      have ay:bx<wr.heap.size:=AI I m.out.size
      have aa:∀ob,(wr.alloc ob).cell? ⟨bx,2,none⟩=some dv:=λob=>(World.cell?_alloc_old _ _ _ (Nat.ne_of_lt ay)).trans aM
      have aA:bl X=cx.1:=by rw[<-hX];rfl
      have DE:=AF (λ(W:World) (hb:Below wq.heap.size wq W)=>gm (OkD O W) st.defs aK X dv W
       ((HG.out.same (q':=3*s.size+1) (show gA (λ_=>True) O O wq W from⟨hb.size,λb h _=>⟨rfl,hb.block b h⟩⟩) (λ_=>trivial) (AG _)).df.defs) (λb hb=>hb.2))
      rw[aA]at DE
      have U:st.calls.drop j=cx::st.calls.drop (j+1):=by
       rw[List.drop_eq_getElem_cons ai]
       rw[List.getElem?_eq_getElem ai]at V
       injection V with e
       rw[e]
      have b0:(cx.2:Int)=((cx.2:Nat):Int):=rfl
      clear ac ax ab k0 k1 k2 k3 k4 k5 k6 k7 M Z V hX aA
      cases hd:eE st.defs cx.1 with
      | true=>
        rw[hd]at DE
        have ap:Hid (gi st.defs (st.calls.drop (j+1))=gi st.defs st.calls):=by
         unfold Hid
         rw[<-HN.out,U,gi,if_pos hd]
        clear hd U
        go_wp2_with fail
        have o:=heap_alloc_new wr (.cells #[.int .u8 5,.int .i64 (cx.2:Nat),.string ⟨#[]⟩,.bool root,.slice va vl vc,.string X,.slice none 0 0,.slice none 0 0] 56)
        have G:=m.out.trans ((AH wr.heap.size wr).alloc (AG _) (.cells #[.int .u8 5,.int .i64 (cx.2:Nat),.string ⟨#[]⟩,.bool root,.slice va vl vc,.string X,.slice none 0 0,.slice none 0 0] 56) |>.mono m.out.size)
        have al:=aa (.cells #[.int .u8 5,.int .i64 (cx.2:Nat),.string ⟨#[]⟩,.bool root,.slice va vl vc,.string X,.slice none 0 0,.slice none 0 0] 56)
        generalize N:wr.alloc _=W2
        rw[N]at o G al
        have r:=AF G
        have q5:W2.cell? ⟨wr.heap.size,5,none⟩=some (.string X):=by rw[dW o];rfl
        have aE:=AF o
        have ad:wr.heap.size<W2.heap.size:=dX o
        clear N G o p0 p1 p2 p3 p4 p5 p6 p7 aa
        refine wp_region_noPanic ?_
        go_region_with (go_at_call 48;refine(DE.out _ (r.out.trans ((Sl.drew _).below _))).mono ?_;rintro e w2 ⟨rfl,K⟩)
        all_goals
         refine NoPanic.normal ?_
         have ar:=AF (r.out.trans (((Sl.drew W2).below wq.heap.size).trans (K.mono r.out.size)))
         clear K
         go_wp2_with fail
         go_roundw
         case rel=>exact⟨j+1,by go_num,by omega,ar.out,ap⟩
         case measure=>simp[intOf];omega
      | false=>
        rw[hd]at DE
        have ap:Hid (gi st.defs st.calls=some cx.2):=by
         unfold Hid
         rw[<-HN.out,U,gi,if_neg (by rw[hd];decide)]
        have HE:Hid (gY s.size st=.err 195 cx.2):=by unfold Hid;rw[aG.out,ap.out]
        clear hd U
        go_wp2_with fail
        have o:=heap_alloc_new wr (.cells #[.int .u8 5,.int .i64 (cx.2:Nat),.string ⟨#[]⟩,.bool root,.slice va vl vc,.string X,.slice none 0 0,.slice none 0 0] 56)
        have G:=m.out.trans ((AH wr.heap.size wr).alloc (AG _) (.cells #[.int .u8 5,.int .i64 (cx.2:Nat),.string ⟨#[]⟩,.bool root,.slice va vl vc,.string X,.slice none 0 0,.slice none 0 0] 56) |>.mono m.out.size)
        have al:=aa (.cells #[.int .u8 5,.int .i64 (cx.2:Nat),.string ⟨#[]⟩,.bool root,.slice va vl vc,.string X,.slice none 0 0,.slice none 0 0] 56)
        generalize N:wr.alloc _=W2
        rw[N]at o G al
        have r:=AF G
        have q5:W2.cell? ⟨wr.heap.size,5,none⟩=some (.string X):=by rw[dW o];rfl
        have aE:=AF o
        have ad:wr.heap.size<W2.heap.size:=dX o
        clear N G o p0 p1 p2 p3 p4 p5 p6 p7 aa
        refine wp_region_noPanic ?_
        go_region_with (go_at_call 48;refine(DE.out _ (r.out.trans ((Sl.drew _).below _))).mono ?_;rintro e w2 ⟨rfl,K⟩)
        all_goals
         refine NoPanic.normal ?_
         have ar:=AF (r.out.trans (((Sl.drew W2).below wq.heap.size).trans (K.mono r.out.size)))
         have aB:=(K.block wr.heap.size ad).trans (((Sl.drew W2).below (wr.heap.size+1)).block _ (Nat.lt_succ_self _) |>.trans aE.out)
         have q1:w2.cell? ⟨wr.heap.size,1,none⟩=some (.int .i64 (cx.2:Nat)):=by rw[dW aB];rfl
         clear K aB
         go_wp2_with fail
         exact fx 195 cx.2 ah au.out an.out aq.out (E.out.trans (ar.out.mono (by have:=E.out.size;omega))) rfl rfl rfl (by rw[ao.out,HE.out])
    · have bT:¬(j:Int)<(st.calls.length:Int):=by omega
      have aP:Hid (gY s.size st=.ok ⟨st.top.kids,st.defs⟩):=by
       have:=HN.out
       rw[show st.calls.drop j=[]from List.drop_eq_nil_of_le (by omega)]at this
       unfold Hid
       rw[aG.out,←this]
       rfl
      obtain⟨kb,vn,vk,kv,kh,hK⟩:=qm HF.out
      obtain⟨ka,kc,rfl⟩:=hK.slice
      obtain⟨da,dc,rfl⟩:=(show ∃a k,dv=.slice a st.defs.length k by obtain⟨cs,h,-⟩:=HG.out.df;exact h.slice)
      have HK:=AF hK
      have aj:=ej ak
      have aJ:=dX kh
      have d0:wr.cell? ⟨bx,0,none⟩=some (.slice (some ⟨g,0,none⟩) 1 c):=by rw[m.out.cell (p:=⟨bx,0,none⟩) I,c0,aD.out]
      have dg:wr.cell? ⟨g,0,none⟩=some (.pointer (some ⟨fb,0,none⟩)):=by rw[m.out.cell (p:=⟨g,0,none⟩) aj];have:=ak;rwa[aD.out]at this
      have av:=(m.out.block fb aJ).trans kh
      have dk:wr.cell? ⟨fb,13,none⟩=some (.slice ka st.top.kids.len kc):=by rw[dW av];rfl
      have R:=(m.out.block bx I).trans HG.out.hx
      have J:=(m.out.block w.heap.size (by have:=E.out.size;omega)).trans ((E.out.block _ (by omega)).trans an.out)
      have Y:=(m.out.block (w.heap.size+1) (by have:=E.out.size;omega)).trans ((E.out.block _ (by omega)).trans aq.out)
      have bZ:=HG.out.bb
      have n1:w.heap.size≠bx:=by omega
      have n2:w.heap.size+1≠bx:=by omega
      have b4:=AF R
      have aN:=AF J
      have aQ:=AF Y
      have d1:wr.cell? ⟨bx,1,none⟩=some (.slice none 0 0):=by rw[dW R];rfl
      have d2:wr.cell? ⟨bx,2,none⟩=some (.slice da st.defs.length dc):=by rw[dW R];rfl
      have t0:wr.cell? ⟨w.heap.size,0,none⟩=some (.slice none 0 0):=by rw[dW J];rfl
      have t1:wr.cell? ⟨w.heap.size,1,none⟩=some (.slice none 0 0):=by rw[dW J];rfl
      have e0:wr.cell? ⟨w.heap.size+1,0,none⟩=some .nilIface:=by rw[dW Y];rfl
      have f1:wr.frozen? ⟨bx,1,none⟩=false:=by rw[dY R]
      have f2:wr.frozen? ⟨w.heap.size,0,none⟩=false:=by rw[dY J]
      have f3:wr.frozen? ⟨w.heap.size,1,none⟩=false:=by rw[dY J]
      have f4:wr.frozen? ⟨w.heap.size+1,0,none⟩=false:=by rw[dY Y]
      have aO:=AF (E.out.trans (m.out.mono E.out.size))
      have aC:Hid (gA (λ_=>True) O O wq wr):=⟨m.out.size,λb h _=>⟨rfl,m.out.block b h⟩⟩
      clear c0 c1 c2 c3 c4 fz ak kh av R J Y hK
      go_wp2_with fail
      exact nK ah au.out aO.out aN.out aQ.out (HG.out.same aC.out (λ_=>trivial) (AG _)) (HK.out.same aC.out trivial trivial) rfl rfl rfl (by rw[ao.out,aP.out])
 · have HE:Hid (gY s.size st=.err 192 s.size):=if_pos hr
   have tl:(1:Int)<(st.rest.length:Int)+1:=by have:=List.length_pos_iff.2 hr;omega
   clear hr hg hF
   go_wp2_with fail
   exact fx 192 s.size ah au.out an.out aq.out E.out rfl rfl rfl (by rw[ao.out,HE.out])
open Go.RowKit Go.Shelf Go.Lib
theorem iW (s:ByteArray)(J:s.size<=16384)(G:validD (bl s)=true)(w:World)(E:Gd w):Calls Tryz.prog 44 #[.string s] w (qF w none):=by
 have H:Hid (∀w,Gd w->Calls Tryz.prog 72 #[.string s] w λe w'=>e=.returned (.bool true)/\Below w.heap.size w w'):=λw h=>by
  have:=kJ s (by omega) w h.2
  rw[show s.data.toList=bl s from rfl,G]at this
  exact this
 have m:Below w.heap.size w (w.alloc (.cells #[.string s] 9)):=(AH w.heap.size w).alloc (AG _) _
 have r:=AF m
 have I:=AF (E.below m)
 clear m E
 go_enter Tryz.func44,Tryz.ntmps44
 go_wp2_with fail
 refine(H.out _ I.out).mono ?_
 rintro e w1 ⟨rfl,o⟩
 have A:=AF (r.out.trans (o.mono r.out.size))
 clear o
 go_wp2_with fail
 exact⟨rfl,_,by simp[results,Tryz.results44,go_sem],A.out,rfl⟩
theorem pn (m:By->Option Nat)(s:ByteArray)(o:s.size<=16384)(r:validD (bl s)=true)(E:m (bl s)=none)(w:World)(A:Gd w):Calls Tryz.prog 26 #[.string s] w (mr w (jr m (bl s))):=
 (jq m s o w A E (iW s o r)).2.2 (wW m s o w A E (iW s o r)) (wV m s o w A E (iW s o r))
theorem lV (m:By->Option Nat)(s:ByteArray)(r:s.size<=16384)(o:validD (bl s)=true)(E:m (bl s)=none)(w:World)(A:Gd w):Calls Tryz.prog 26 #[.string s] w (qG w (jr m (bl s))):=
 (pn m s r o E w A).mono λ_ _ h=>h.weak
end Go.Proofs.YtepcpgdfbaklfaaGreatDoor
