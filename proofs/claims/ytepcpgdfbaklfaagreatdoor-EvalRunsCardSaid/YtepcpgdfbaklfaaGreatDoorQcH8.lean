/- A value that came in: what its weight says of its sizes. No condition. -/
import Derived.Test.YtepcpgdfbaklfaaGreatDoorQcF1
import Derived.Test.YtepcpgdfbaklfaaGreatDoorQcF0
import Derived.Test.YtepcpgdfbaklfaaGreatDoorG5Q
import Derived.Test.YtepcpgdfbaklfaaGreatDoorQcE0
import Derived.Test.YtepcpgdfbaklfaaGreatDoorQcG9
import Derived.Test.YtepcpgdfbaklfaaGreatDoorQcTg0
set_option maxRecDepth 100000
set_option maxHeartbeats 8000000
set_option linter.unusedSimpArgs false
set_option linter.unusedVariables false
namespace Go.Proofs.YtepcpgdfbaklfaaGreatDoor
open Go.RowKit Go.Shelf Ev
theorem tA:∀t:Vl,eX t<=wgX t:=by
 intro t
 induction t with
 | nil=>exact AG _
 | cons h k r o m=>simp only[eX,wgX];omega
theorem rX {h:Vh}(G:h.sm):h.wf:=by
 obtain⟨E,A,r,o,K,J,m⟩:=G
 exact⟨E,A,r,o,by omega,by omega,λn I=>Nat.le_trans (m n I) (by decide)⟩
theorem yz:∀t:Vl,smX t->eX t<=16777216->wfX t:=by
 intro t
 induction t with
 | nil=>intro _ _;exact trivial
 | cons h k r o m=>
   rintro⟨I,G,E⟩ A
   simp only[eX]at A
   have J:=eS k
   exact⟨rX I,o G (by omega),m E (by omega),by omega⟩
theorem Va.sm_wf {x:Va}(h:Va.sm x):Va.wf x:=⟨rX h.1,yz _ h.2.1 h.2.2,by have:=eS x.items;have:=h.2.2;omega⟩
theorem Va.wf_sm {x:Va}(h:Va.wf x)(hw:wvF 2048 x<=2048):Va.sm x:=by
 have A:=yc x 2048 hw
 have r:wgX (.cons x.h x.items .nil)<=2048:=by rw[<-A];exact hw
 have m:=nw 2048 (by decide) (.cons x.h x.items .nil) ⟨h.1,h.2.1,trivial,h.2.2⟩ r
 have o:=tA (.cons x.h x.items .nil)
 simp only[eX]at o
 exact⟨m.1,m.2.1,by omega⟩
def Pc.ok (p:Pc):Prop:=Va.sm p.val∧-9223372036854775808<=p.pos/\p.pos<=9223372036854775807
def rI (r:Ev.Rs):Prop:=∀p∈r.out,Pc.ok p
theorem vY:Va.sm fS:=⟨⟨by decide,by decide,by decide,by decide,by decide,by decide,λn m=>by cases m⟩,trivial,by decide⟩
theorem qB {a:Ev.Rs}{k:Nat->Ev.Rs}(h:rI a)(r:∀f,rI (k f)):rI (a.seq k):=by
 cases o:a.err with
 | some x=>simp only[rI,Ev.Rs.seq,o];exact h
 | none=>
   simp only[rI,Ev.Rs.seq,o]
   intro p m
   rcases List.mem_append.1 m with m | m
   · exact h p m
   · exact r _ p m
theorem lC {one:Hd->Pt->Pt->Nat->Ev.Rs}(h:∀x k e f,x.wf->k.wf->e.wf->rI (one x k e f)):∀l f,l.wf->rI (em one l f)
 | .nil,f,_=>λp m=>by cases m
 | .cons x k e r,f,hw=>qB (h x k e f hw.1 hw.2.1 hw.2.2.1) λf=>lC h r f hw.2.2.2.1
theorem oF {pos:Int}{f:Nat}{a:Nat->Ev.Rs}(h:∀g,rI (a g)):rI (iu pos f a):=by
 cases f with
 | zero=>intro p m;cases m
 | succ f=>exact h f
theorem mn {pos:Int}{go:Va->Nat->Ev.Rs}(h:∀x f,Va.sm x->rI (go x f)):∀(l:Vl) f,(∀i x,l.get i=some x->Va.sm x)->rI (eM pos go l f)
 | .nil,f,_=>λp o=>by cases o
 | .cons x i r,f,m=>qB (oF λg=>h _ g (m 0 _ rfl)) λf=>mn h r f λi x hx=>m (i+1) x hx
theorem tI {D:ByteArray->Pt}{C:Nat}(K:∀n,(D n).wf):∀n dot root deep h k e f,Va.sm dot->Va.sm root->h.wf->k.wf->e.wf->rI (evF D C n dot root deep h k e f)
 | 0,dot,root,deep,h,k,e,f,_,_,_,_,_=>λp m=>by cases m
 | n+1,dot,root,deep,h,k,e,f,G,r,A,I,J=>by
   have E:∀dot root deep l f,Va.sm dot->Va.sm root->l.wf->rI (em (evF D C n dot root deep) l f):=λdot root deep l f R O N=>lC (λx k e f q1 q2 q3=>tI K n dot root deep x k e f R O q1 q2 q3) l f N
   simp only[evF]
   refine oF λf=> ?_
   split
   · intro p m
     obtain rfl:=List.mem_singleton.1 m
     exact⟨vY,A.2.1,A.2.2.1⟩
   · cases M:eU h.names (if h.root=true then root else dot)with
     | error x=>intro p m;cases m
     | ok v=>
       have o:Va.sm v:=pA _ _ _ M (by split;exact r;exact G)
       dsimp only
       split
       · intro p m
         obtain rfl:=List.mem_singleton.1 m
         exact⟨o,A.2.1,A.2.2.1⟩
       · split
         · exact E _ _ _ _ _ G r (by split;exact I;exact J)
         · split
           · split
             · split
               · exact E _ _ _ _ _ G r J
               · exact mn (λx f hx=>E _ _ _ _ _ hx r I) _ _ λi x hx=>Va.sm_get o hx
             · intro p m;cases m
           · split
             · intro p m;cases m
             · exact E _ _ _ _ _ o o (K _)
theorem xE {l:List Df}(h:∀d∈l,d.kids.wf)(n:ByteArray):(ff l n).wf:=by
 by_cases m:ff l n=.nil
 · rw[m];exact trivial
 · obtain⟨d,r,o⟩:=qr m
   rw[<-o]
   exact h d r
theorem vh (r:Ev.Rs):(tm r).1=r.out:=by unfold tm;split <;> rfl
theorem wN {t:Tm}(hw:TmW t){v:Va}(o:Va.sm v)(fuel calls:Int):(∀p∈(Ev.runT t v fuel calls).1,Pc.ok p)/\(Ev.runT t v fuel calls).1.length<=1000000:=by
 unfold Ev.runT
 split
 · exact⟨λp m=>(by cases m),Nat.zero_le _⟩
 · split
   · exact⟨λp m=>(by cases m),Nat.zero_le _⟩
   · rw[vh]
     refine⟨lC (λx k e f q1 q2 q3=>tI (xE λd r=>(hw.defs d r).2.1) _ v v 0 x k e f o o q1 q2 q3) _ _ hw.main.1,?_⟩
     have E:=gK (one:=evF (ff t.defs) (eG 256 calls) (eG 1000000 fuel) v v 0) (F:=eG 1000000 fuel) (λx k e f _=>jc _ v v 0 x k e f) t.main (eG 1000000 fuel) (AG _)
     have A:=iF 1000000 fuel
     show(pY _ _ _ _ _).out.length<=_
     unfold pY
     omega
attribute [local go_sem ↓] Go.wp_at_zero Go.wp_at_succ
def Az (t:Tm)(v:Va)(w:World)(e:Ending)(w':World):Prop:=∃b:Bool,e=.returned (.bool b)/\(b=false->wtT t<=2048/\wvF 2048 v<=2048)/\Below w.heap.size w w'
theorem th (t:Tm)(ht:TmW t)(v:Va)(hv:Va.wf v)(I J a1 a2:Option Addr)(E G c1 c2:Nat)(w:World)(hp:d8 (·<w.heap.size) w (.slice I t.main.len E) t.main)(hd:fU (·<w.heap.size) w (.slice J t.defs.length G) t.defs)(hx:fu (·<w.heap.size) w v a1 c1 a2 c2):
 Calls Tryz.prog 9 #[.agg #[.slice I t.main.len E,.slice J t.defs.length G],.agg #[.int .u8 (v.h.kind:Nat),.bool v.h.b,.int .i64 v.h.n,.int .u64 (v.h.bits:Nat),.string v.h.text,.slice a1 v.h.keys.length c1,.slice a2 v.items.len c2]] w (Az t v w):=by
 have WT:Hid (∀W,Below w.heap.size w W->Calls Tryz.prog 27 #[.agg #[.slice I t.main.len E,.slice J t.defs.length G],.int .i64 2048] W (Aj 2048 t W)):=λW hW=>iU t 2048 (by decide) ht _ _ _ W (hp.kept (eL.of_below hW)) (hd.kept (eL.of_below hW))
 have WV:Hid (∀W,Below w.heap.size w W->Calls Tryz.prog 24 #[.agg #[.int .u8 (v.h.kind:Nat),.bool v.h.b,.int .i64 v.h.n,.int .u64 (v.h.bits:Nat),.string v.h.text,.slice a1 v.h.keys.length c1,.slice a2 v.items.len c2],.int .i64 2048] W (WvP 2048 v W)):=λW hW=>kj v 2048 (by decide) _ _ W hv (hx.kept (eL.of_below hW)).val
 clear hp hd hx ht hv
 have HT:Hid (∀N,((w.alloc (.cells #[.slice I t.main.len E,.slice J t.defs.length G] 25)).alloc (.cells #[.int .u8 (v.h.kind:Nat),.bool v.h.b,.int .i64 v.h.n,.int .u64 (v.h.bits:Nat),.string v.h.text,.slice a1 v.h.keys.length c1,.slice a2 v.items.len c2] 31))=N->Below w.heap.size w N/\N.heap.size=w.heap.size+2/\N.heap[w.heap.size]? =some (.cells #[.slice I t.main.len E,.slice J t.defs.length G] 25 (0,0))/\N.heap[w.heap.size+1]? =some (.cells #[.int .u8 (v.h.kind:Nat),.bool v.h.b,.int .i64 v.h.n,.int .u64 (v.h.bits:Nat),.string v.h.text,.slice a1 v.h.keys.length c1,.slice a2 v.items.len c2] 31 (0,0))):=by
  rintro N rfl
  have n0:=heap_alloc_new w (.cells #[.slice I t.main.len E,.slice J t.defs.length G] 25)
  have n1:=heap_alloc_new (w.alloc (.cells #[.slice I t.main.len E,.slice J t.defs.length G] 25)) (.cells #[.int .u8 (v.h.kind:Nat),.bool v.h.b,.int .i64 v.h.n,.int .u64 (v.h.bits:Nat),.string v.h.text,.slice a1 v.h.keys.length c1,.slice a2 v.items.len c2] 31)
  simp only[World.size_alloc]at n1
  exact⟨((AH _ w).alloc (AG _) _).alloc (by simp) _,by simp,(Below.heap_alloc _ _ _ (by simp)).trans n0,n1⟩
 go_enter Tryz.func9,Tryz.ntmps9
 go_upto_region 1 with(fail)
 try simp only[Nat.add_assoc,Nat.reduceAdd]
 generalize aa:World.alloc (World.alloc w _) _=w0 at*
 obtain⟨V,ac,K,O⟩:=HT.out w0 rfl
 clear aa HT
 have Z:=AF V
 have ab:=AF O
 have t0:w0.cell? ⟨w.heap.size,0,none⟩=some (.slice I t.main.len E):=by rw[dW K];rfl
 have t1:w0.cell? ⟨w.heap.size,1,none⟩=some (.slice J t.defs.length G):=by rw[dW K];rfl
 clear V K O
 go_wp2_with fail
 refine(WT.out w0 Z.out).mono ?_
 rintro e w1 ⟨m,rfl,hm,M⟩
 have A:Hid (Below w.heap.size w w1):=Z.out.trans (M.mono (by omega))
 have o:=(M.block _ (by omega)).trans ab.out
 have HM:=AF hm
 clear M t0 t1 hm
 have v0:w1.cell? ⟨w.heap.size+1,0,none⟩=some (.int .u8 (v.h.kind:Nat)):=by rw[dW o];rfl
 have v1:w1.cell? ⟨w.heap.size+1,1,none⟩=some (.bool v.h.b):=by rw[dW o];rfl
 have v2:w1.cell? ⟨w.heap.size+1,2,none⟩=some (.int .i64 v.h.n):=by rw[dW o];rfl
 have v3:w1.cell? ⟨w.heap.size+1,3,none⟩=some (.int .u64 (v.h.bits:Nat)):=by rw[dW o];rfl
 have v4:w1.cell? ⟨w.heap.size+1,4,none⟩=some (.string v.h.text):=by rw[dW o];rfl
 have v5:w1.cell? ⟨w.heap.size+1,5,none⟩=some (.slice a1 v.h.keys.length c1):=by rw[dW o];rfl
 have v6:w1.cell? ⟨w.heap.size+1,6,none⟩=some (.slice a2 v.items.len c2):=by rw[dW o];rfl
 clear o
 by_cases h1:m<=2048
 rotate_left
 · have r:decide ((2048:Int)<(m:Int))=true:=decide_eq_true (by omega)
   have R:(2048:Int)<(m:Int):=by omega
   clear h1
   go_wp2_with fail
   go_ret
   exact⟨true,rfl,λh=>(by cases h),A.out⟩
 have r:decide ((2048:Int)<(m:Int))=false:=decide_eq_false (by omega)
 have R:¬(2048:Int)<(m:Int):=by omega
 have H1:Hid (wtT t<=2048):=by have:=HM.out h1;unfold Hid;omega
 clear h1
 go_wp2_with fail
 refine(WV.out w1 A.out).mono ?_
 rintro e w2 ⟨rfl,U⟩
 have Y:Hid (Below w.heap.size w w2):=A.out.trans (U.mono A.out.size)
 clear U v0 v1 v2 v3 v4 v5 v6 r R
 by_cases h2:wvF 2048 v<=2048
 · have r:decide ((2048:Int)<(wvF 2048 v:Int))=false:=decide_eq_false (by omega)
   have H2:=AF h2
   clear h2
   go_wp2_with fail
   go_ret
   exact⟨false,rfl,λ_=>⟨H1.out,H2.out⟩,Y.out⟩
 · have r:decide ((2048:Int)<(wvF 2048 v:Int))=true:=decide_eq_true (by omega)
   clear h2
   go_wp2_with fail
   go_ret
   exact⟨true,rfl,λh=>(by cases h),Y.out⟩
theorem hH.lt {ok:Nat->Prop}{w:World}:∀(l:List Pc) (b o:Nat),hH ok w l b o->hH (λb=>ok b/\b<w.heap.size) w l b o:=by
 intro l
 induction l with
 | nil=>intro b o _;exact trivial
 | cons p r m=>rintro b o ⟨G,E,A⟩;exact⟨G,fF.lt _ _ _ E,m b _ A⟩
def jF (ok:Nat->Prop)(a:Option Addr)(w:World)(r:List Pc)(k:Nat):Prop:=r≠[]->∃b o,a=some ⟨b,o,none⟩/\(ok b/\b<w.heap.size)/\hH (λb=>ok b/\b<w.heap.size) w r b (o+k*10)
theorem Pcs.rest {ok:Nat->Prop}{w:World}{v:Value}{l:List Pc}(h:Pcs ok w v l):∃a c,v=.slice a l.length c/\l.length<=c/\c<=maxLen/\jF ok a w l 0:=by
 obtain⟨a,c,rfl,G,E,A⟩:=h
 refine⟨a,c,rfl,G,E,λm=> ?_⟩
 obtain⟨b,o,q1,q2,q3⟩:=A m
 refine⟨b,o,q1,⟨q2,?_⟩,by rw[Nat.zero_mul,Nat.add_zero];exact hH.lt _ _ _ q3⟩
 cases l with
 | nil=>exact absurd rfl m
 | cons p r=>exact ej q3.1.1
theorem kk (l:List Pc)(hw:∀p∈l,Va.wf p.val)(hl:l.length<=140737488351232)(ok ok':Nat->Prop)(v v':Value)(w:World)(h:Pcs ok w v l)(h':Pcs ok' w v' l):
 Calls Tryz.prog 17 #[v,v'] w λe w'=>e=.returned (.bool true)/\Below w.heap.size w w':=by
 obtain⟨a,c,rfl,-,-,h3⟩:=Pcs.rest h
 obtain⟨a',c',rfl,-,-,ab⟩:=Pcs.rest h'
 have HX:=AF h3
 have HY:=AF ab
 have HW:=AF hw
 clear h3 ab h h' hw
 go_enter Tryz.func17,Tryz.ntmps17
 go_wp2_with fail
 go_loopw [5] (λi wr=>∃(k:Nat) (r:List Pc),i=.int .i64 (k:Nat)/\k+r.length=l.length/\Hid (Below w.heap.size w wr)/\Hid (jF ok a w r k)/\Hid (jF ok' a' w r k)/\Hid (∀p∈r,p∈l)) (λi _=>l.length - (intOf i).toNat)
 case atStart=>exact⟨0,l,rfl,by omega,AH _ _,HX,HY,λ_ h=>h⟩
 case round=>
  obtain⟨k,r,rfl,hk,HB,am,al,HF⟩:=hrel
  cases r with
  | nil=>
    simp only[List.length_nil]at hk
    have aw:¬(k:Int)<(l.length:Int):=by omega
    go_wp2_with fail
    go_ret
    exact⟨rfl,HB.out⟩
  | cons p r=>
    simp only[List.length_cons]at hk
    have aq:(k:Int)<(l.length:Int):=by omega
    have av:(0:Int)<=(k:Int):=by omega
    obtain⟨b,o,rfl,E,A⟩:=am.out (by simp)
    obtain⟨I,K,rfl,M,m⟩:=al.out (by simp)
    have an:Hid (jF ok (some ⟨b,o,none⟩) w r (k+1)):=λ_=>⟨b,o,rfl,E,by have:=A.2.2;rwa[show o+k*10+10=o+(k+1)*10 by omega]at this⟩
    have ak:Hid (jF ok' (some ⟨I,K,none⟩) w r (k+1)):=λ_=>⟨I,K,rfl,M,by have:=m.2.2;rwa[show K+k*10+10=K+(k+1)*10 by omega]at this⟩
    have ao:Hid (∀p∈r,p∈l):=λq hq=>HF.out q (List.mem_cons_of_mem _ hq)
    have Y:=HW.out p (HF.out p (List.mem_cons_self ..))
    obtain⟨⟨g0,g1,g2⟩,⟨⟨c0,c1,c2,c3,c4,v5,c5,Z⟩,⟨ag,cg,c6,k1,k2,k3⟩,-⟩,-⟩:=hH.kept (λb E=>HB.out.block b E.2) _ _ _ E A
    obtain⟨⟨f0,f1,f2⟩,⟨⟨d0,d1,d2,d3,d4,U,d5,J⟩,⟨O,N,d6,ai,ah,V⟩,-⟩,-⟩:=hH.kept (λb E=>HB.out.block b E.2) _ _ _ M m
    have ad:Hid (g9 (λb=>ok b/\b<w.heap.size) wr (.agg #[.int .u8 (p.val.h.kind:Nat),.bool p.val.h.b,.int .i64 p.val.h.n,.int .u64 (p.val.h.bits:Nat),.string p.val.h.text,v5,.slice ag p.val.items.len cg]) p.val):=⟨_,_,rfl,Z,ag,cg,rfl,k1,k2,k3⟩
    have ac:Hid (g9 (λb=>ok' b/\b<w.heap.size) wr (.agg #[.int .u8 (p.val.h.kind:Nat),.bool p.val.h.b,.int .i64 p.val.h.n,.int .u64 (p.val.h.bits:Nat),.string p.val.h.text,U,.slice O p.val.items.len N]) p.val):=⟨_,_,rfl,J,O,N,rfl,ai,ah,V⟩
    have aj:=HB.out.size
    have KC:Hid (∀W,Below wr.heap.size wr W->Calls Tryz.prog 14 #[.agg #[.int .u8 (p.val.h.kind:Nat),.bool p.val.h.b,.int .i64 p.val.h.n,.int .u64 (p.val.h.bits:Nat),.string p.val.h.text,v5,.slice ag p.val.items.len cg],.agg #[.int .u8 (p.val.h.kind:Nat),.bool p.val.h.b,.int .i64 p.val.h.n,.int .u64 (p.val.h.bits:Nat),.string p.val.h.text,U,.slice O p.val.items.len N]] W λe w'=>e=.returned (.bool true)/\Below W.heap.size W w'):=λW G=>
     gu p.val (λb=>ok b/\b<w.heap.size) (λb=>ok' b/\b<w.heap.size) _ _ W Y (ad.out.kept (λb E=>G.block b (by have:=E.2;omega))) (ac.out.kept (λb E=>G.block b (by have:=E.2;omega)))
    have HG:Hid (∀W,Below wr.heap.size wr W->(W.cell? ⟨b,o+k*10,none⟩=some (.int .i64 p.pos)/\W.cell? ⟨b,o+k*10+1,none⟩=some (.bool p.hole)/\W.cell? ⟨b,o+k*10+2,none⟩=some (.string p.text))/\W.cell? ⟨I,K+k*10,none⟩=some (.int .i64 p.pos)/\W.cell? ⟨I,K+k*10+1,none⟩=some (.bool p.hole)/\W.cell? ⟨I,K+k*10+2,none⟩=some (.string p.text)):=λW G=>
     have q:b<wr.heap.size:=by have:=E.2;omega
     have q':I<wr.heap.size:=by have:=M.2;omega
     ⟨⟨(G.cell (p:=⟨b,_,none⟩) q).trans g0,(G.cell (p:=⟨b,_,none⟩) q).trans g1,(G.cell (p:=⟨b,_,none⟩) q).trans g2⟩,(G.cell (p:=⟨I,_,none⟩) q').trans f0,(G.cell (p:=⟨I,_,none⟩) q').trans f1,(G.cell (p:=⟨I,_,none⟩) q').trans f2⟩
    obtain⟨ay,ax,rfl,-⟩:=Z
    obtain⟨au,ar,rfl,-⟩:=J
    have ae:=AF hk
    clear k3 V A m Y hk ad ac g0 g1 g2 f0 f1 f2
    go_upto_region 6 with(fail)
    go_still_tail 10,(by kernel_rfl)
    change wpList _ _ _ _ _ wr.drew
    have R:Hid (Below wr.heap.size wr wr.drew):=⟨rfl,rfl,rfl,AG _,λ_ _=>rfl⟩
    clear c0 c1 c2 c3 c4 c5 c6 d0 d1 d2 d3 d4 d5 d6
    generalize wr.drew=w2 at*
    go_wp2_with fail
    refine(KC.out _ R.out).mono ?_
    rintro e w3 ⟨rfl,aa⟩
    have af:Hid (Below wr.heap.size wr w3):=R.out.trans (aa.mono R.out.size)
    have ap:Hid (Below w.heap.size w w3):=HB.out.trans (af.out.mono aj)
    obtain⟨⟨g0,g1,g2⟩,f0,f1,f2⟩:=HG.out _ af.out
    clear aa KC
    go_wp2_with fail
    go_quiet (fail)
    go_wp2_with fail
    go_roundw
    case rel=>exact⟨k+1,r,by go_num,by have:=ae.out;omega,ei ap.out _,an,ak,ao⟩
    case measure=>simp[intOf];have:=ae.out;omega
end Go.Proofs.YtepcpgdfbaklfaaGreatDoor
