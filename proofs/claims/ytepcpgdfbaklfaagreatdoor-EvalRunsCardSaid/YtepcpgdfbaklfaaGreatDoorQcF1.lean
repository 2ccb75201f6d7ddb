/- Values in memory: laws on rows of values; the contract of lacunaref00.SameValue where both are the same. The condition: lists and texts of at most 2 to the 47th bytes. -/
import Derived.Test.YtepcpgdfbaklfaaGreatDoorQcTs0
import Derived.Test.YtepcpgdfbaklfaaGreatDoorQcE0
import Derived.Test.YtepcpgdfbaklfaaGreatDoorTc0Q
import Derived.Deep.RegionHeld3
set_option maxRecDepth 100000
set_option maxHeartbeats 40000000
set_option linter.unusedSimpArgs false
set_option linter.unusedVariables false
namespace Go.Proofs.YtepcpgdfbaklfaaGreatDoor
open Go.RowKit Go.Shelf Ev
attribute [local go_sem ↓] Go.wp_at_zero Go.wp_at_succ
theorem fF.lt {ok:Nat->Prop}{w:World}:∀(t:Vl) (b o:Nat),fF ok w t b o->fF (λb=>ok b/\b<w.heap.size) w t b o:=by
 intro t
 induction t with
 | nil=>intro b o _;exact trivial
 | cons h k r E A=>
   rintro b o ⟨⟨c0,c1,c2,c3,c4,v,c5,R⟩,⟨W,ck,c6,O,N,M⟩,m⟩
   refine⟨⟨c0,c1,c2,c3,c4,v,c5,R.lt⟩,⟨W,ck,c6,O,N,λI=> ?_⟩,A b _ m⟩
   obtain⟨K,G,V,U,J⟩:=M I
   refine⟨K,G,V,⟨U,?_⟩,E K G J⟩
   cases k with
   | nil=>exact absurd rfl I
   | cons _ _ _=>exact ej J.1.1
theorem gb.lt {ok:Nat->Prop}{w:World}{v:Value}{t:Vl}(h:gb ok w v t):gb (λb=>ok b/\b<w.heap.size) w v t:=by
 obtain⟨a,c,A,K,J,I⟩:=h
 refine⟨a,c,A,K,J,λm=> ?_⟩
 obtain⟨b,o,G,E,r⟩:=I m
 refine⟨b,o,G,⟨E,?_⟩,fF.lt _ _ _ r⟩
 cases t with
 | nil=>exact absurd rfl m
 | cons _ _ _=>exact ej r.1.1
theorem g9.lt {ok:Nat->Prop}{w:World}{v:Value}{x:Va}(h:g9 ok w v x):g9 (λb=>ok b/\b<w.heap.size) w v x:=by
 obtain⟨m,o,r,E,A⟩:=h
 exact⟨m,o,r,E.lt,gb.lt A⟩
def d9 (h:Vh)(m o:Value):Array Value:=#[.int .u8 (h.kind:Nat),.bool h.b,.int .i64 h.n,.int .u64 (h.bits:Nat),.string h.text,m,o]
structure zl (P:Nat)(h:Vh)(vk vi:Value)(w:World):Prop where
 p0:w.cell? ⟨P,0,none⟩=some (.int .u8 (h.kind:Nat))
 p1:w.cell? ⟨P,1,none⟩=some (.bool h.b)
 p2:w.cell? ⟨P,2,none⟩=some (.int .i64 h.n)
 p3:w.cell? ⟨P,3,none⟩=some (.int .u64 (h.bits:Nat))
 p4:w.cell? ⟨P,4,none⟩=some (.string h.text)
 p5:w.cell? ⟨P,5,none⟩=some vk
 p6:w.cell? ⟨P,6,none⟩=some vi
theorem fR {P:Nat}{h:Vh}{o r:Value}{w:World}(m:w.heap[P]? =some (.cells (d9 h o r) 31 (0,0))):zl P h o r w:=
 ⟨by rw[dW m];rfl,by rw[dW m];rfl,by rw[dW m];rfl,by rw[dW m];rfl,by rw[dW m];rfl,by rw[dW m];rfl,by rw[dW m];rfl⟩
def jE (ok:Nat->Prop)(a:Option Addr)(w:World)(r:Vl)(k:Nat):Prop:=r≠.nil->∃b o,a=some ⟨b,o,none⟩/\(ok b/\b<w.heap.size)/\fF (λb=>ok b/\b<w.heap.size) w r b (o+k*7)
theorem gb.rest {ok:Nat->Prop}{w:World}{v:Value}{t:Vl}(h:gb ok w v t):∃a c,v=.slice a t.len c/\t.len<=c/\c<=maxLen/\jE ok a w t 0:=by
 obtain⟨a,c,rfl,E,A,r⟩:=gb.lt h
 refine⟨a,c,rfl,E,A,λm=> ?_⟩
 obtain⟨b,o,q1,q2,q3⟩:=r m
 exact⟨b,o,q1,q2,by rw[Nat.zero_mul,Nat.add_zero];exact q3⟩
theorem uy {w:World}{x y:Obj}{w1:World}(h:Below (w.heap.size+2) ((w.alloc x).alloc y) w1):
 w1.heap[w.heap.size]? =(w.alloc x).heap[w.heap.size]?∧w1.heap[w.heap.size+1]? =((w.alloc x).alloc y).heap[w.heap.size+1]? :=
 ⟨(h.block _ (by omega)).trans (Below.heap_alloc _ _ _ (by simp)),h.block _ (by omega)⟩
def Va.wf (x:Va):Prop:=x.h.wf/\wfX x.items/\x.items.len<=140737488351232
def tQ (n:Nat):Prop:=∀(x:Va),eX x.items<n->∀(ok ok':Nat->Prop) (v m:Value) (w:World),Va.wf x->g9 ok w v x->g9 ok' w m x->
 Calls Tryz.prog 14 #[v,m] w λe w'=>e=.returned (.bool true)/\Below w.heap.size w w'
theorem wF (n:Nat)(ih:tQ n):tQ (n+1):=by
 intro x hn ok ok' v v' w aC hx aA
 obtain⟨h,m⟩:=x
 obtain⟨⟨-,-,-,-,-,f6,f7⟩,R,aB⟩:=aC
 dsimp only at hn f6 f7 R aB
 obtain⟨vk,vi,rfl,O,hi⟩:=hx
 obtain⟨af,aQ,rfl,U,V⟩:=aA
 dsimp only at O hi U V
 have SC:Hid (∀W,Below w.heap.size w W->Calls Tryz.prog 33 #[vk,af] W λe w'=>e=.returned (.bool true)/\Below W.heap.size W w'):=λW Y=>
  ib (λb=>ok b/\b<w.heap.size) (λb=>ok' b/\b<w.heap.size) h.keys f6 vk af W (O.lt.kept (λb E=>Y.block b E.2)) (U.lt.kept (λb E=>Y.block b E.2))
 obtain⟨a,c,rfl,-,-,h3⟩:=gb.rest hi
 obtain⟨a',c',rfl,-,-,ar⟩:=gb.rest V
 obtain⟨ak,ck,rfl,-⟩:=O
 obtain⟨J,I,rfl,-⟩:=U
 have HX:=AF h3
 have HY:=AF ar
 have aG:=AF R
 have IH:=AF ih
 clear h3 ar hi V R ih f7
 have ae:Hid (Below w.heap.size w ((w.alloc (.cells (d9 h (.slice ak h.keys.length ck) (.slice a m.len c)) 31)).alloc (.cells (d9 h (.slice J h.keys.length I) (.slice a' m.len c')) 31))):=((AH _ w).alloc (AG _) _).alloc (by simp) _
 have ac:Hid (((w.alloc (.cells (d9 h (.slice ak h.keys.length ck) (.slice a m.len c)) 31)).alloc (.cells (d9 h (.slice J h.keys.length I) (.slice a' m.len c')) 31)).heap.size=w.heap.size+2):=by unfold Hid;simp
 have ab:Hid (∀W,Below (w.heap.size+2) ((w.alloc (.cells (d9 h (.slice ak h.keys.length ck) (.slice a m.len c)) 31)).alloc (.cells (d9 h (.slice J h.keys.length I) (.slice a' m.len c')) 31)) W->zl w.heap.size h (.slice ak h.keys.length ck) (.slice a m.len c) W/\zl (w.heap.size+1) h (.slice J h.keys.length I) (.slice a' m.len c') W):=λW Y=>by
  have q:=uy Y
  refine⟨fR (q.1.trans (heap_alloc_new w _)),fR (q.2.trans ?_)⟩
  have:=heap_alloc_new (w.alloc (.cells (d9 h (.slice ak h.keys.length ck) (.slice a m.len c)) 31)) (.cells (d9 h (.slice J h.keys.length I) (.slice a' m.len c')) 31)
  rwa[show(w.alloc (.cells (d9 h (.slice ak h.keys.length ck) (.slice a m.len c)) 31)).heap.size=w.heap.size+1 by simp]at this
 unfold d9 at ae ac ab
 go_enter Tryz.func14,Tryz.ntmps14
 go_wp2_with fail
 generalize aF:World.alloc (World.alloc w _) _=W0 at*
 clear aF
 refine(SC.out _ ae.out).mono ?_
 rintro e w1 ⟨rfl,ap⟩
 have ax:Hid (Below (w.heap.size+2) W0 w1):=ap.mono (by rw[ac.out];exact AG _)
 clear ap
 obtain⟨⟨p0,p1,p2,p3,p4,p5,p6⟩,⟨q0,q1,q2,q3,q4,q5,q6⟩⟩:=ab.out _ ax.out
 go_wp2_with fail
 go_loopw [6] (λi wr=>∃(k:Nat) (r:Vl),i=.int .i64 (k:Nat)/\k+r.len=m.len/\Hid (Below (w.heap.size+2) W0 wr)/\Hid (jE ok a w r k)/\Hid (jE ok' a' w r k)/\eX r<=eX m/\Hid (wfX r)) (λi _=>m.len - (intOf i).toNat)
 case atStart=>exact⟨0,m,rfl,by omega,ax,HX,HY,AG _,aG⟩
 case round=>
  obtain⟨k,r,rfl,O,HB,aJ,aI,aE,HF⟩:=hrel
  clear p0 p1 p2 p3 p4 p5 p6 q0 q1 q2 q3 q4 q5 q6
  obtain⟨⟨p0,p1,p2,p3,p4,p5,p6⟩,⟨q0,q1,q2,q3,q4,q5,q6⟩⟩:=ab.out _ HB.out
  have K:Hid (Below w.heap.size w wr):=ae.out.trans (HB.out.mono (by omega))
  cases r with
  | nil=>
    simp only[Vl.len]at O
    have aT:¬(k:Int)<(m.len:Int):=by omega
    go_wp2_with fail
    go_ret
    exact⟨rfl,K.out⟩
  | cons g M r=>
    simp only[Vl.len]at O
    simp only[eX]at aE
    have aN:(k:Int)<(m.len:Int):=by omega
    have aS:(0:Int)<=(k:Int):=by omega
    obtain⟨b,o,rfl,E,G⟩:=aJ.out (by simp)
    obtain⟨b',o',rfl,aq,A⟩:=aI.out (by simp)
    have aK:Hid (jE ok (some ⟨b,o,none⟩) w r (k+1)):=λ_=>⟨b,o,rfl,E,by have:=G.2.2;rwa[show o+k*7+7=o+(k+1)*7 by omega]at this⟩
    have aH:Hid (jE ok' (some ⟨b',o',none⟩) w r (k+1)):=λ_=>⟨b',o',rfl,aq,by have:=A.2.2;rwa[show o'+k*7+7=o'+(k+1)*7 by omega]at this⟩
    obtain⟨⟨c0,c1,c2,c3,c4,v5,c5,an⟩,⟨ag,cg,c6,k1,k2,k3⟩,-⟩:=fF.kept (λb E=>K.out.block b E.2) _ _ _ E G
    obtain⟨⟨d0,d1,d2,d3,d4,ah,d5,N⟩,⟨aa,Z,d6,az,ay,ai⟩,-⟩:=fF.kept (λb E=>K.out.block b E.2) _ _ _ aq A
    obtain⟨am,al,aj,aD⟩:=HF.out
    have aL:=AF aj
    have av:Hid (g9 (λb=>ok b/\b<w.heap.size) wr (.agg #[.int .u8 (g.kind:Nat),.bool g.b,.int .i64 g.n,.int .u64 (g.bits:Nat),.string g.text,v5,.slice ag M.len cg]) ⟨g,M⟩):=⟨_,_,rfl,an,ag,cg,rfl,k1,k2,k3⟩
    have au:Hid (g9 (λb=>ok' b/\b<w.heap.size) wr (.agg #[.int .u8 (g.kind:Nat),.bool g.b,.int .i64 g.n,.int .u64 (g.bits:Nat),.string g.text,ah,.slice aa M.len Z]) ⟨g,M⟩):=⟨_,_,rfl,N,aa,Z,rfl,az,ay,ai⟩
    have aR:=K.out.size
    have KC:Hid (∀W,Below wr.heap.size wr W->Calls Tryz.prog 14 #[.agg #[.int .u8 (g.kind:Nat),.bool g.b,.int .i64 g.n,.int .u64 (g.bits:Nat),.string g.text,v5,.slice ag M.len cg],.agg #[.int .u8 (g.kind:Nat),.bool g.b,.int .i64 g.n,.int .u64 (g.bits:Nat),.string g.text,ah,.slice aa M.len Z]] W λe w'=>e=.returned (.bool true)/\Below W.heap.size W w'):=λW Y=>
     IH.out ⟨g,M⟩ (by show eX M<n;omega) (λb=>ok b/\b<w.heap.size) (λb=>ok' b/\b<w.heap.size) _ _ W ⟨am,al,aD⟩ (av.out.kept (λb E=>Y.block b (by have:=E.2;omega))) (au.out.kept (λb E=>Y.block b (by have:=E.2;omega)))
    obtain⟨aV,aU,rfl,-⟩:=an
    obtain⟨aP,aO,rfl,-⟩:=N
    have aw:=AF O
    clear k3 ai G A am al aj O av au
    go_upto_region 7 with(fail)
    go_still_tail 10,(by kernel_rfl)
    change wpList _ _ _ _ _ wr.drew
    have ad:Hid (Below wr.heap.size wr wr.drew):=⟨rfl,rfl,rfl,AG _,λ_ _=>rfl⟩
    clear c0 c1 c2 c3 c4 c5 c6 d0 d1 d2 d3 d4 d5 d6
    generalize wr.drew=w2 at*
    go_wp2_with fail
    refine(KC.out _ ad.out).mono ?_
    rintro e w3 ⟨rfl,ao⟩
    have aM:Hid (Below (w.heap.size+2) W0 w3):=HB.out.trans ((ad.out.trans (ao.mono ad.out.size)).mono (by have:=HB.out.size;rw[ac.out]at this;exact this))
    clear ao KC
    go_wp2_with fail
    go_roundw
    case rel=>exact⟨k+1,r,by go_num,by have:=aw.out;omega,aM,aK,aH,by omega,aL⟩
    case measure=>simp[intOf];have:=aw.out;omega
theorem yw (n:Nat):tQ n:=by
 induction n with
 | zero=>intro x h;exact absurd h (Nat.not_lt_zero _)
 | succ n m=>exact wF n m
theorem gu (x:Va)(ok ok':Nat->Prop)(v m:Value)(w:World)(hw:Va.wf x)(hx:g9 ok w v x)(o:g9 ok' w m x):
 Calls Tryz.prog 14 #[v,m] w λe w'=>e=.returned (.bool true)/\Below w.heap.size w w':=
 yw (eX x.items+1) x (Nat.lt_succ_self _) ok ok' v m w hw hx o
theorem xj (most m:Nat)(l:List ByteArray)(h:¬m<=most):l9 most m l=m:=by
 cases l with
 | nil=>rfl
 | cons s l=>rw[l9,if_neg h]
theorem sS (most m:Nat)(l:List ByteArray)(j:Nat)(s:ByteArray)(r:l[j]? =some s)(A:m<=most):l9 most m (l.drop j)=l9 most (m+s.size) (l.drop (j+1)):=by
 have o:=(List.getElem?_eq_some_iff.1 r).1
 rw[List.drop_eq_getElem_cons o,(List.getElem?_eq_some_iff.1 r).2,l9,if_pos A]
def WvP (most:Nat)(x:Va)(w:World)(e:Ending)(w':World):Prop:=e=.returned (.int .i64 (wvF most x:Nat))/\Below w.heap.size w w'
def tO (n:Nat):Prop:=∀(x:Va),eX x.items<n->∀(most:Nat) (ok:Nat->Prop) (v:Value) (w:World),most<=16384->Va.wf x->g9 ok w v x->Calls Tryz.prog 24 #[v,.int .i64 (most:Nat)] w (WvP most x w)
theorem vZ (n:Nat)(ih:tO n):tO (n+1):=by
 intro x hn most ok v w ay Z hx
 have a7:=AF (vC x most Z.1 Z.2.1)
 obtain⟨h,A⟩:=x
 obtain⟨⟨-,-,-,-,f4,f6,f7⟩,V,aw⟩:=Z
 dsimp only at hn f4 f6 f7 V aw
 obtain⟨vk,vi,rfl,M,hi⟩:=hx
 dsimp only at M hi
 have az:=M.lt
 obtain⟨a,c,rfl,-,-,h3⟩:=gb.rest hi
 obtain⟨ak,ck,rfl,-,-,al⟩:=az
 have HX:=AF h3
 have aJ:=AF al
 have aG:=AF V
 have aM:=AF f7
 have IH:=AF ih
 clear h3 hi V ih f7 al M
 have ah:Hid (Below w.heap.size w (w.alloc (.cells (d9 h (.slice ak h.keys.length ck) (.slice a A.len c)) 31))):=(AH _ w).alloc (AG _) _
 have ap:Hid ((w.alloc (.cells (d9 h (.slice ak h.keys.length ck) (.slice a A.len c)) 31)).heap.size=w.heap.size+1):=by unfold Hid;simp
 have ad:Hid (∀W,Below (w.heap.size+1) (w.alloc (.cells (d9 h (.slice ak h.keys.length ck) (.slice a A.len c)) 31)) W->zl w.heap.size h (.slice ak h.keys.length ck) (.slice a A.len c) W):=λW hW=>fR ((hW.block _ (by omega)).trans (heap_alloc_new w _))
 unfold d9 at ah ap ad
 have av:IntKind.i64.wrap (1+(h.text.size:Int))=1+(h.text.size:Int):=IntWalk.i64_in _ ⟨by omega,by omega⟩
 have au:IntKind.i64.wrap (1+(h.text.size:Int)+(h.keys.length:Int))=1+(h.text.size:Int)+(h.keys.length:Int):=IntWalk.i64_in _ ⟨by omega,by omega⟩
 obtain⟨O,ac⟩:∃O:Nat,O=1+h.text.size+h.keys.length:=⟨_,rfl⟩
 have ao:O<=most+422212465053696:=by omega
 have aF:Hid (wvF most ⟨h,A⟩=wvL A most (l9 most O h.keys)):=by unfold Hid wvF;rw[ac]
 have a6:=AF ac
 go_enter Tryz.func24,Tryz.ntmps24
 go_upto_region 2 with(fail)
 clear av au
 have N:(1:Int)+(h.text.size:Int)+(h.keys.length:Int)=((O:Nat):Int):=by omega
 rw[N]
 clear N ac
 generalize aE:World.alloc w _=W0 at*
 clear aE
 go_wp2_with fail
 go_loopw [5,6] (λv5 v6 wr=>∃(m j:Nat),v5=.int .i64 (m:Nat)/\v6=.int .i64 (j:Nat)/\j<=h.keys.length/\Hid (l9 most m (h.keys.drop j)=l9 most O h.keys)/\m<=most+422212465053696/\Hid (Below (w.heap.size+1) W0 wr)) (λ_ j _=>h.keys.length - (intOf j).toNat)
 case atStart=>exact⟨O,0,rfl,rfl,Nat.zero_le _,rfl,ao,AH _ _⟩
 case round=>
  obtain⟨m,j,rfl,rfl,hj,HI,aa,G⟩:=hrel
  obtain⟨p0,p1,p2,p3,p4,p5,p6⟩:=ad.out _ G.out
  have aB:(0:Int)<=(j:Int):=by omega
  by_cases hc:j<h.keys.length/\m<=most
  · obtain⟨ab,I⟩:=hc
    have aP:(j:Int)<(h.keys.length:Int):=by omega
    have K:(m:Int)<=(most:Int):=by omega
    obtain⟨s,J⟩:∃s,h.keys[j]? =some s:=⟨_,List.getElem?_eq_getElem ab⟩
    obtain⟨bk,ok',rfl,aD,am⟩:=aJ.out (by intro e;rw[e]at ab;simp at ab)
    have cs:wr.cell? ⟨bk,ok'+j,none⟩=some (.string s):=((ah.out.trans (G.out.mono (by omega))).cell (p:=⟨bk,_,none⟩) aD.2).trans (am j s J)
    have aT:s.size<=140737488351232:=aM.out s (List.mem_of_getElem? J)
    have aK:Hid (l9 most (m+s.size) (h.keys.drop (j+1))=l9 most O h.keys):=by
     unfold Hid;rw[<-HI.out];exact(sS most m _ j s J I).symm
    have aS:IntKind.i64.wrap ((m:Int)+(s.size:Int))=(m:Int)+(s.size:Int):=IntWalk.i64_in _ ⟨by omega,by omega⟩
    clear J am
    go_wp2_with fail
    go_roundw
    case rel=>exact⟨m+s.size,j+1,by go_num,by go_num,by omega,aK,by omega,G⟩
    case measure=>simp[intOf];omega
  · have aq:Hid (wvF most ⟨h,A⟩=wvL A most m):=by
     unfold Hid
     rw[aF.out,←HI.out]
     by_cases hm:m<=most
     · rw[List.drop_of_length_le (by omega)];rfl
     · rw[xj _ _ _ hm]
    have ax:(¬(j:Int)<(h.keys.length:Int))\/((j:Int)<(h.keys.length:Int)/\¬(m:Int)<=(most:Int)):=by omega
    clear hc HI
    rcases ax with hq | ⟨hq,aU⟩
    all_goals
     go_wp2_with fail
     go_loopw [5,7] (λv5 v7 wr=>∃(m k:Nat) (r:Vl),v5=.int .i64 (m:Nat)/\v7=.int .i64 (k:Nat)/\k+r.len=A.len/\Hid (wvF most ⟨h,A⟩=wvL r most m)/\m<=most+422212465053696/\Hid (Below (w.heap.size+1) W0 wr)/\Hid (jE ok a w r k)/\eX r<=eX A/\Hid (wfX r)) (λ_ k _=>A.len - (intOf k).toNat)
     case atStart=>exact⟨m,0,A,rfl,rfl,by omega,aq,aa,G,HX,AG _,aG⟩
     case round=>
      clear aq G p0 p1 p2 p3 p4 p5 p6 aa aB hq
      obtain⟨m,k,r,rfl,rfl,M,HM,aa,G,HR,aC,HF⟩:=hrel
      obtain⟨p0,p1,p2,p3,p4,p5,p6⟩:=ad.out _ G.out
      have af:Hid (Below w.heap.size w wr):=ah.out.trans (G.out.mono (by omega))
      cases r with
      | nil=>
        simp only[Vl.len]at M
        have aW:¬(k:Int)<(A.len:Int):=by omega
        have ae:Hid (m=wvF most ⟨h,A⟩):=HM.out.symm
        go_wp2_with fail
        go_ret
        exact⟨by rw[<-ae.out];rfl,af.out⟩
      | cons g R r=>
        simp only[Vl.len]at M
        simp only[eX]at aC
        have aO:(k:Int)<(A.len:Int):=by omega
        have aV:(0:Int)<=(k:Int):=by omega
        by_cases I:m<=most
        · have K:(m:Int)<=(most:Int):=by omega
          obtain⟨b,o,rfl,hb,E⟩:=HR.out (by simp)
          have aH:Hid (jE ok (some ⟨b,o,none⟩) w r (k+1)):=λ_=>⟨b,o,rfl,hb,by have:=E.2.2;rwa[show o+k*7+7=o+(k+1)*7 by omega]at this⟩
          obtain⟨⟨c0,c1,c2,c3,c4,v5,c5,aj⟩,⟨ag,cg,c6,k1,k2,k3⟩,-⟩:=fF.kept (λb hb=>af.out.block b hb.2) _ _ _ hb E
          obtain⟨Y,U,ai,aA⟩:=HF.out
          have aL:=AF ai
          have aI:Hid (wvF most ⟨h,A⟩=wvL r most (m+wvF (most - m) ⟨g,R⟩)):=by unfold Hid;rw[HM.out,ug _ _ _ _ _ I]
          have aX:=vC ⟨g,R⟩ (most - m) Y U
          have KC:Hid (Calls Tryz.prog 24 #[.agg #[.int .u8 (g.kind:Nat),.bool g.b,.int .i64 g.n,.int .u64 (g.bits:Nat),.string g.text,v5,.slice ag R.len cg],.int .i64 ((most - m:Nat):Int)] wr (WvP (most - m) ⟨g,R⟩ wr)):=
           IH.out ⟨g,R⟩ (by show eX R<n;omega) (most - m) (λb=>ok b/\b<w.heap.size) _ wr (by omega) ⟨Y,U,aA⟩ ⟨_,_,rfl,aj,ag,cg,rfl,k1,k2,k3⟩
          obtain⟨aZ,aY,rfl,-⟩:=aj
          have ar:=AF M
          have aR:IntKind.i64.wrap ((most:Int) - (m:Int))=((most - m:Nat):Int):=by rw[IntWalk.i64_in _ ⟨by omega,by omega⟩];omega
          generalize hQ:wvF (most - m) ⟨g,R⟩=q at*
          have aQ:IntKind.i64.wrap ((m:Int)+(q:Int))=(m:Int)+(q:Int):=IntWalk.i64_in _ ⟨by omega,by omega⟩
          clear k3 E Y U ai M
          go_wp2_with fail
          refine KC.out.mono ?_
          rintro e w3 ⟨rfl,an⟩
          rw[hQ]
          have aN:Hid (Below (w.heap.size+1) W0 w3):=G.out.trans (an.mono (by have:=G.out.size;rw[ap.out]at this;exact this))
          clear an KC
          go_wp2_with fail
          go_roundw
          case rel=>exact⟨m+q,k+1,r,by go_num,by go_num,by have:=ar.out;omega,aI,by omega,aN,aH,by omega,aL⟩
          case measure=>simp[intOf];have:=ar.out;omega
        · have K:¬(m:Int)<=(most:Int):=by omega
          have ae:Hid (m=wvF most ⟨h,A⟩):=by unfold Hid;rw[HM.out,pS _ _ _ I]
          go_wp2_with fail
          go_ret
          exact⟨by rw[<-ae.out];rfl,af.out⟩
theorem xZ (n:Nat):tO n:=by
 induction n with
 | zero=>intro x h;exact absurd h (Nat.not_lt_zero _)
 | succ n m=>exact vZ n m
theorem kj (x:Va)(most:Nat)(m:most<=16384)(ok:Nat->Prop)(v:Value)(w:World)(hw:Va.wf x)(hx:g9 ok w v x):Calls Tryz.prog 24 #[v,.int .i64 (most:Nat)] w (WvP most x w):=
 xZ (eX x.items+1) x (Nat.lt_succ_self _) most ok v w m hw hx
structure fP (w w':World)(g p n:Nat)(xs:List Value):Prop where
 os:w'.os=w.os
 tape:w'.tape=w.tape
 output:w'.output=w.output
 size:w'.heap.size=w.heap.size
 oth:∀b,b≠g->w'.heap[b]? =w.heap[b]?
 far:∀o,(o<p\/p+n<=o)->w'.cell? ⟨g,o,none⟩=w.cell? ⟨g,o,none⟩
 is:∀j u,xs[j]? =some u->w'.cell? ⟨g,p+j,none⟩=some u
 len:xs.length=n
 unf:∀b,UnF w b->UnF w' b
theorem fP.nil (w:World)(g p:Nat):fP w w g p 0 []:=⟨rfl,rfl,rfl,rfl,λ_ _=>rfl,λ_ _=>rfl,λj u h=>by simp at h,rfl,λ_ h=>h⟩
theorem fP.snoc {w w1:World}{g p n:Nat}{I:List Value}(h:fP w w1 g p n I){y:Value}(x:Value)(J:w.cell? ⟨g,p+n,none⟩=some y):fP w (w1.setCell ⟨g,p+n,none⟩ x) g p (n+1) (I++[x]):=by
 have G:w1.cell? ⟨g,p+n,none⟩=some y:=(h.far _ (.inr (AG _))).trans J
 refine⟨h.os,h.tape,h.output,by simp[World.setCell,h.size],λb r=>(Below.heap_setCell _ _ _ _ (λe=>r e)).trans (h.oth b r),λo K=> ?_,λj u m=> ?_,by simp[h.len],λb r i=>by rw[World.frozen?_setCell];exact h.unf b r i⟩
 · rw[World.cell?_setCell_other _ _ _ _ (by intro e;injection e with _ e _;omega)]
   exact h.far o (by omega)
 · by_cases E:j<n
   · rw[World.cell?_setCell_other _ _ _ _ (by intro e;injection e with _ e _;omega)]
     rw[List.getElem?_append_left (by rw[h.len];exact E)]at m
     exact h.is j u m
   · have A:=(List.getElem?_eq_some_iff.1 m).1
     simp only[List.length_append,List.length_singleton,h.len]at A
     obtain rfl:j=n:=by omega
     rw[List.getElem?_append_right (by rw[h.len];exact AG _),h.len,Nat.sub_self]at m
     simp at m
     subst m
     exact World.cell?_setCell_same _ _ _ G
theorem fP.below {w w':World}{g p n B:Nat}{m:List Value}(h:fP w w' g p n m)(hB:B<=g):Below B w w':=⟨h.os,h.tape,h.output,by rw[h.size];exact AG _,λb o=>h.oth b (by omega)⟩
theorem o7 {w:World}{g p:Nat}{U R O N M K J:Value}(I G E A r o m:Value)(c0:w.cell? ⟨g,p,none⟩=some U)(c1:w.cell? ⟨g,p+1,none⟩=some R)(c2:w.cell? ⟨g,p+2,none⟩=some O)(c3:w.cell? ⟨g,p+3,none⟩=some N)(c4:w.cell? ⟨g,p+4,none⟩=some M)(c5:w.cell? ⟨g,p+5,none⟩=some K)(c6:w.cell? ⟨g,p+6,none⟩=some J):
 fP w (((((((w.setCell ⟨g,p,none⟩ I).setCell ⟨g,p+1,none⟩ G).setCell ⟨g,p+2,none⟩ E).setCell ⟨g,p+3,none⟩ A).setCell ⟨g,p+4,none⟩ r).setCell ⟨g,p+5,none⟩ o).setCell ⟨g,p+6,none⟩ m) g p 7 [I,G,E,A,r,o,m]:=
 (((((((fP.nil w g p).snoc I c0).snoc G c1).snoc E c2).snoc A c3).snoc r c4).snoc o c5).snoc m c6
def Nu (B:Nat)(w:World)(b:Nat):Prop:=B<=b/\b<w.heap.size/\UnF w b
theorem lW {B:Nat}{w:World}{v:Value}{l:List ByteArray}(h:w.ownsRow B 9 1 v l.length (l.map Value.string)):Strs (Nu B w) w v l:=by
 rcases h.2 with⟨rfl,J⟩ | ⟨g,cap,E,rfl,hB,A,r,m,I,G⟩
 · have:l=[]:=List.length_eq_zero_iff.1 J
   subst this
   exact Strs.nil _ _
 · refine⟨some ⟨g,0,none⟩,cap,rfl,r,m,λ_=>⟨g,0,rfl,⟨hB,dX A,dY A⟩,λi s K=> ?_⟩⟩
   rw[Nat.zero_add,dW A,←Array.getElem?_toList]
   have o:(E.toList.take (l.length*1))[i]? =some (.string s):=by rw[G,List.getElem?_map,K];rfl
   rw[List.getElem?_take]at o
   split at o
   · exact o
   · cases o
theorem lD (b o j:Nat):(⟨b,o,none⟩:Addr).add j=⟨b,o+j,none⟩:=by unfold Addr.add;split <;> simp_all
theorem ov (ok:Nat->Prop)(l:List ByteArray)(hl:l.length<=16777216)(v:Value)(w:World)(h:Strs ok w v l):
 Calls Tryz.prog 70 #[v] w λe w'=>∃E,e=.returned E/\Strs (Nu w.heap.size w') w' E l/\Below w.heap.size w w':=by
 obtain⟨an,c,rfl,h1,h2,G⟩:=h
 have q:∀(w:World) (a:Option Addr) (n c I R:Nat),(binOp .eql 28 (.slice a n c) (.slice none I R)).run Tryz.prog w=.ok (.bool a.isNone) w:=λw a n c I R=>Lib.run_eql_slice_nil w _ _ a n c I R Tryz.underlying28
 obtain⟨i0,hi,M,K,J⟩:=info_parts mM
 cases an with
 | none=>
   cases l with
   | cons y l=>obtain⟨b,o,O,-⟩:=G (by simp);cases O
   | nil=>
     clear G
     go_enter Tryz.func70,Tryz.ntmps70
     go_wp2_with fail
     go_ret
     exact⟨_,rfl,Strs.nil _ _,AH _ _⟩
 | some V=>
   have H3:=AF G
   clear G
   go_enter Tryz.func70,Tryz.ntmps70
   go_wp2_with (at_builtin;refine wpList_append_own _ rfl _ _ 28 rfl w.heap.size 9 i0 (.string ⟨#[]⟩) 1 16 Tryz.underlying28 hi M K J rfl (by decide) _ _ _ rfl (World.ownsRow_made w #[] 0 (AG _) (Nat.zero_le _) rfl) V l.length c (l.map Value.string) rfl ?qc1 ?qc2 ?qc3 ?qc4 ?qc5 ?qc6 ?_)
   case qc1=>simp
   case qc2=>
    intro j u Z
    obtain⟨x,r,rfl⟩:∃x,l[j]? =some x/\Value.string x=u:=by simpa using Z
    obtain⟨b,o,O,-,N⟩:=H3.out (by rintro rfl;simp at r)
    obtain rfl:V=⟨b,o,none⟩:=Option.some.inj O
    rw[lD]
    exact Lib.cell?_alloc_some _ (N j x r)
   case qc3=>
    intro u W
    obtain⟨x,-,rfl⟩:=List.mem_map.1 W
    rfl
   case qc4=>unfold maxLen;omega
   case qc5=>omega
   case qc6=>simp
   intro E w1 A m U
   go_wp2_with fail
   go_ret
   refine⟨E,rfl,lW (by simpa using A),?_⟩
   exact((AH _ w).alloc (AG _) _).grown m (by simp) (by intro k Y;simp[Value.ownBlock]at Y;omega)
theorem kX {k:Vl}(h:k.len=0):k=.nil:=by
 cases k with
 | nil=>rfl
 | cons _ _ _=>exact absurd h (Nat.succ_ne_zero _)
theorem sX:(Tryz.prog.info? 31).map (λi=>(i.zero,i.size,i.bytes))=some (some (.agg #[.int .u8 0,.bool false,.int .i64 0,.int .u64 0,.string ⟨#[]⟩,.slice none 0 0,.slice none 0 0]),7,88):=by kernel_rfl
theorem fF.cells {ok:Nat->Prop}{w:World}:∀(t:Vl) (b o:Nat),fF ok w t b o->∃cs:List Value,cs.length=t.len*7/\(∀j u,cs[j]? =some u->w.cell? ⟨b,o+j,none⟩=some u)/\∀u∈cs,u.oneCell'=true:=by
 intro t
 induction t with
 | nil=>intro b o _;exact⟨[],rfl,λj u h=>by simp at h,λu h=>by cases h⟩
 | cons h k r _ I=>
   rintro b o ⟨⟨c0,c1,c2,c3,c4,v,c5,O,N,rfl,U⟩,⟨R,ck,c6,V⟩,A⟩
   obtain⟨cs,M,K,J⟩:=I b (o+7) A
   refine⟨[.int .u8 (h.kind:Nat),.bool h.b,.int .i64 h.n,.int .u64 (h.bits:Nat),.string h.text,.slice O h.keys.length N,.slice R k.len ck]++cs,by simp[Vl.len,M];omega,λj u m=> ?_,λu E=> ?_⟩
   · by_cases G:j<7
     · match j,G with
       | 0,_=>simp at m;subst m;exact c0
       | 1,_=>simp at m;subst m;exact c1
       | 2,_=>simp at m;subst m;exact c2
       | 3,_=>simp at m;subst m;exact c3
       | 4,_=>simp at m;subst m;exact c4
       | 5,_=>simp at m;subst m;exact c5
       | 6,_=>simp at m;subst m;exact c6
     · rw[List.getElem?_append_right (by simp;omega)]at m
       have:=K _ u m
       simp only[List.length_cons,List.length_nil]at this
       rwa[show o+7+(j - (0+1+1+1+1+1+1+1))=o+j by omega]at this
   · simp only[List.mem_append,List.mem_cons,List.not_mem_nil,or_false]at E
     rcases E with(rfl | rfl | rfl | rfl | rfl | rfl | rfl) | E
     all_goals first | rfl | exact J u E
theorem fF.move {ok ok':Nat->Prop}{w w':World}(m:∀b,ok b->ok' b/\w'.heap[b]? =w.heap[b]?):∀(t:Vl) (b o J E:Nat),(∀j,j<t.len*7->w'.cell? ⟨J,E+j,none⟩=w.cell? ⟨b,o+j,none⟩)->fF ok w t b o->fF ok' w' t J E:=by
 intro t
 induction t with
 | nil=>intro b o J E _ _;exact trivial
 | cons h k r _ W=>
   rintro b o J E A ⟨⟨c0,c1,c2,c3,c4,v,c5,Y⟩,⟨ak,ck,c6,V,U,R⟩,G⟩
   simp only[Vl.len]at A
   have K:eL ok w w':=λb I=>(m b I).2
   refine⟨⟨(A 0 (by omega)).trans c0,(A 1 (by omega)).trans c1,(A 2 (by omega)).trans c2,(A 3 (by omega)).trans c3,(A 4 (by omega)).trans c4,v,(A 5 (by omega)).trans c5,(Y.kept K).mono λb I=>(m b I).1⟩,
    ⟨ak,ck,(A 6 (by omega)).trans c6,V,U,λZ=> ?_⟩,W b (o+7) J (E+7) (λj hj=> ?_) G⟩
   · obtain⟨N,O,h1,M,h3⟩:=R Z
     exact⟨N,O,h1,(m N M).1,(fF.kept K _ _ _ M h3).mono (λb I=>(m b I).1)⟩
   · rw[show E+7+j=E+(7+j) by omega,show o+7+j=o+(7+j) by omega]
     exact A (7+j) (by omega)
def vW (t:Vl)(ok:Nat->Prop)(w:World)(m:Value)(w':World):Prop:=Below w.heap.size w w'/\∃a c,m=.slice a t.len c/\t.len<=c/\c<=maxLen/\
 (t≠.nil->∃g,a=some ⟨g,0,none⟩/\w.heap.size<=g/\g<w'.heap.size/\UnF w' g/\fF (λb=>ok b/\b<w.heap.size) w' t g 0)
theorem ou (ok:Nat->Prop)(t:Vl)(hl:t.len<=16777216)(v:Value)(w:World)(h:gb ok w v t):
 Calls Tryz.prog 71 #[v] w λe w'=>∃G,e=.returned G/\vW t ok w G w':=by
 obtain⟨an,c,rfl,h1,h2,N⟩:=gb.lt h
 have q:∀(w:World) (a:Option Addr) (n c U c':Nat),(binOp .eql 29 (.slice a n c) (.slice none U c')).run Tryz.prog w=.ok (.bool a.isNone) w:=λw a n c U c'=>Lib.run_eql_slice_nil w _ _ a n c U c' Tryz.underlying29
 obtain⟨i0,hi,Y,W,V⟩:=info_parts sX
 cases an with
 | none=>
   cases t with
   | cons y k l=>obtain⟨b,o,M,-⟩:=N (by simp);cases M
   | nil=>
     clear N h
     simp only[Vl.len]
     go_enter Tryz.func71,Tryz.ntmps71
     go_wp2_with fail
     go_ret
     exact⟨_,rfl,AH _ _,none,0,rfl,AG _,by decide,λh=>absurd rfl h⟩
 | some R=>
   obtain⟨m,aa,I,ac⟩:∃m:List Value,m.length=t.len*7/\(∀j u,m[j]? =some u->w.cell? (R.add j)=some u)/\∀u∈m,u.oneCell'=true:=by
    cases t with
    | nil=>exact⟨[],rfl,λj u h=>by simp at h,λu h=>by cases h⟩
    | cons y k l=>
      obtain⟨b,o,M,-,hr⟩:=N (by simp)
      obtain rfl:R=⟨b,o,none⟩:=Option.some.inj M
      obtain⟨cs,q1,q2,q3⟩:=fF.cells _ _ _ hr
      exact⟨cs,q1,λj u E=>by rw[lD];exact q2 j u E,q3⟩
   have H3:=AF N
   have O:=AF I
   clear N h I
   go_enter Tryz.func71,Tryz.ntmps71
   go_wp2_with (at_builtin;refine wpList_append_own _ rfl _ _ 29 rfl w.heap.size 31 i0 _ 7 88 Tryz.underlying29 hi Y W V rfl (by decide) _ _ _ rfl (World.ownsRow_made w #[] 0 (AG _) (Nat.zero_le _) rfl) R t.len c m rfl ?qc1 ?qc2 ?qc3 ?qc4 ?qc5 ?qc6 ?_)
   case qc2=>
    intro j u E
    exact Lib.cell?_alloc_some _ (O.out j u E)
   case qc3=>exact ac
   case qc4=>unfold maxLen;omega
   case qc5=>omega
   intro G w1 r A ah
   go_wp2_with fail
   go_ret
   have hB:Below w.heap.size w w1:=((AH _ w).alloc (AG _) _).grown A (by simp) (by intro k hk;simp[Value.ownBlock]at hk;omega)
   refine⟨G,rfl,hB,?_⟩
   replace r:w1.ownsRow w.heap.size 31 7 G t.len m:=by simpa using r
   rcases r.2 with⟨rfl,hn⟩ | ⟨g,cap,ag,rfl,af,hg,ae,K,ai,ht⟩
   · have Z:=kX hn
     subst Z
     exact⟨none,0,rfl,AG _,by decide,λh=>absurd rfl h⟩
   · refine⟨_,_,rfl,ae,K,λab=>⟨g,rfl,af,dX hg,dY hg,?_⟩⟩
     obtain⟨b,o,M,hb,hr⟩:=H3.out ab
     obtain rfl:R=⟨b,o,none⟩:=Option.some.inj M
     refine fF.move (λb hb=>⟨hb,hB.block b hb.2⟩) _ b o g 0 (λj E=> ?_) hr
     have J:j<m.length:=by rw[aa];exact E
     have e1:=O.out j _ (List.getElem?_eq_getElem J)
     rw[lD]at e1
     rw[e1,Nat.zero_add,dW hg,←Array.getElem?_toList]
     have e2:(ag.toList.take (t.len*7))[j]? =some m[j]:=by rw[ht,List.getElem?_eq_getElem J]
     rw[List.getElem?_take,if_pos E]at e2
     exact e2
def Va.sm (x:Va):Prop:=x.h.sm/\smX x.items/\eX x.items<=16777216
def Vl.app:Vl->Vl->Vl
 | .nil,y=>y
 | .cons h k r,y=>.cons h k (Vl.app r y)
theorem Vl.app_nil (x:Vl):Vl.app x .nil=x:=by induction x with | nil=>rfl | cons h k r _ ih=>simp[Vl.app,ih]
theorem Vl.app_one (x:Vl)(h:Vh)(k r:Vl):Vl.app (Vl.app x (.cons h k .nil)) r=Vl.app x (.cons h k r):=by induction x with | nil=>rfl | cons h k r _ ih=>simp[Vl.app,ih]
theorem Vl.len_app (x y:Vl):(Vl.app x y).len=x.len+y.len:=by
 induction x with
 | nil=>simp[Vl.app,Vl.len]
 | cons h k r _ m=>simp[Vl.app,Vl.len,m];omega
theorem fF.app {ok:Nat->Prop}{w:World}(y:Vl):∀(x:Vl) (b o:Nat),fF ok w x b o->fF ok w y b (o+x.len*7)->fF ok w (Vl.app x y) b o:=by
 intro x
 induction x with
 | nil=>intro b o _ h;simpa[Vl.len,Vl.app]using h
 | cons h k r _ m=>
   rintro b o ⟨I,G,E⟩ A
   refine⟨I,G,m b (o+7) E ?_⟩
   simp only[Vl.len]at A
   rwa[show o+7+r.len*7=o+(r.len+1)*7 by omega]
theorem Strs.cases {ok:Nat->Prop}{w:World}{v:Value}{l:List ByteArray}(h:Strs ok w v l):∃a c,v=.slice a l.length c:=by obtain⟨a,c,rfl,-⟩:=h;exact⟨a,c,rfl⟩
theorem iZ {fn:Func}{k:Tmp}{b:Nat}{I G E A r o m:Value}{tmps:Array Value}{w:World}(h:fn.results=#[.cell k 31])(K:tmps.getD k undef=.pointer (some ⟨b,0,none⟩))
 (c:∀j u,[I,G,E,A,r,o,m][j]? =some u->w.cell? ⟨b,0+j,none⟩=some u):
 (results fn tmps).run Tryz.prog w=.ok (.agg #[I,G,E,A,r,o,m]) w:=by
 have c0:w.cell? ⟨b,0,none⟩=some I:=c 0 _ rfl
 have c1:w.cell? ⟨b,1,none⟩=some G:=c 1 _ rfl
 have c2:w.cell? ⟨b,2,none⟩=some E:=c 2 _ rfl
 have c3:w.cell? ⟨b,3,none⟩=some A:=c 3 _ rfl
 have c4:w.cell? ⟨b,4,none⟩=some r:=c 4 _ rfl
 have c5:w.cell? ⟨b,5,none⟩=some o:=c 5 _ rfl
 have c6:w.cell? ⟨b,6,none⟩=some m:=c 6 _ rfl
 have J:tmps[k]?.getD undef=.pointer (some ⟨b,0,none⟩):=by rw[<-K];simp
 clear c K
 simp[results,h,J,go_sem,c0,c1,c2,c3,c4,c5,c6]
def Ng (C g:Nat)(w:World)(b:Nat):Prop:=C<=b/\b<w.heap.size/\UnF w b/\b≠g
def CpX (C:Nat)(ok:Nat->Prop)(a:Option Addr)(w:World)(d r:Vl):Prop:=d.len+r.len≠0->∃g,a=some ⟨g,0,none⟩/\C<=g/\g<w.heap.size/\UnF w g/\fF (Ng C g w) w d g 0/\fF ok w r g (d.len*7)
def CdP (x:Va)(w:World)(e:Ending)(w':World):Prop:=∃m,e=.returned m/\g9 (Nu w.heap.size w') w' m x/\Below w.heap.size w w'
def uc (n:Nat):Prop:=∀(x:Va),eX x.items<n->∀(ok:Nat->Prop) (v:Value) (w:World),Va.sm x->g9 ok w v x->Calls Tryz.prog 42 #[v] w (CdP x w)
theorem xM (n:Nat)(ih:uc n):uc (n+1):=by
 intro x hn ok v w bh hx
 obtain⟨h,m⟩:=x
 obtain⟨⟨-,-,-,-,-,f6,f7⟩,aw,bq⟩:=bh
 dsimp only at hn f6 f7 aw bq
 have bR:=eS m
 obtain⟨vk,vi,rfl,hk,hi⟩:=hx
 dsimp only at hk hi
 have KS:Hid (∀W,Below w.heap.size w W->Calls Tryz.prog 70 #[vk] W λe w'=>∃v',e=.returned v'/\Strs (Nu W.heap.size w') w' v' h.keys/\Below W.heap.size W w'):=λW G=>
  ov (λb=>ok b/\b<w.heap.size) h.keys f6 vk W (hk.lt.kept (λb o=>G.block b o.2))
 have KX:Hid (∀W,Below w.heap.size w W->Calls Tryz.prog 71 #[vi] W λe w'=>∃v',e=.returned v'/\vW m (λb=>ok b/\b<w.heap.size) W v' w'):=λW G=>
  ou (λb=>ok b/\b<w.heap.size) m (by omega) vi W ((gb.lt hi).kept (λb o=>G.block b o.2))
 obtain⟨a,c,rfl,-⟩:=hi
 obtain⟨ak,ck,rfl,-⟩:=hk
 have bA:=AF aw
 have IH:=AF ih
 clear aw ih f7
 have ar:Hid (Below w.heap.size w ((w.alloc (.cells (d9 h (.slice ak h.keys.length ck) (.slice a m.len c)) 31)).alloc (.cells #[.int .u8 0,.bool false,.int .i64 0,.int .u64 0,.string ⟨#[]⟩,.slice none 0 0,.slice none 0 0] 31))):=((AH _ w).alloc (AG _) _).alloc (by simp) _
 have ac:Hid (((w.alloc (.cells (d9 h (.slice ak h.keys.length ck) (.slice a m.len c)) 31)).alloc (.cells #[.int .u8 0,.bool false,.int .i64 0,.int .u64 0,.string ⟨#[]⟩,.slice none 0 0,.slice none 0 0] 31)).heap.size=w.heap.size+2):=by unfold Hid;simp
 have al:Hid (((w.alloc (.cells (d9 h (.slice ak h.keys.length ck) (.slice a m.len c)) 31)).alloc (.cells #[.int .u8 0,.bool false,.int .i64 0,.int .u64 0,.string ⟨#[]⟩,.slice none 0 0,.slice none 0 0] 31)).heap[w.heap.size]? =some (.cells (d9 h (.slice ak h.keys.length ck) (.slice a m.len c)) 31 (0,0))):=(Below.heap_alloc _ _ _ (by simp)).trans (heap_alloc_new w _)
 have az:Hid (((w.alloc (.cells (d9 h (.slice ak h.keys.length ck) (.slice a m.len c)) 31)).alloc (.cells #[.int .u8 0,.bool false,.int .i64 0,.int .u64 0,.string ⟨#[]⟩,.slice none 0 0,.slice none 0 0] 31)).heap[w.heap.size+1]? =some (.cells #[.int .u8 0,.bool false,.int .i64 0,.int .u64 0,.string ⟨#[]⟩,.slice none 0 0,.slice none 0 0] 31 (0,0))):=by
  have:=heap_alloc_new (w.alloc (.cells (d9 h (.slice ak h.keys.length ck) (.slice a m.len c)) 31)) (.cells #[.int .u8 0,.bool false,.int .i64 0,.int .u64 0,.string ⟨#[]⟩,.slice none 0 0,.slice none 0 0] 31)
  rwa[show(w.alloc (.cells (d9 h (.slice ak h.keys.length ck) (.slice a m.len c)) 31)).heap.size=w.heap.size+1 by simp]at this
 unfold d9 at ar ac al az
 go_enter Tryz.func42,Tryz.ntmps42
 go_upto_region 1 with(fail)
 generalize O:World.alloc (World.alloc w _) _=W0 at*
 clear O
 have x5:W0.cell? ⟨w.heap.size,5,none⟩=some (.slice ak h.keys.length ck):=by rw[dW al.out];rfl
 go_wp2_with fail
 refine(KS.out _ ar.out).mono ?_
 rintro e w1 ⟨v1,rfl,U,aj⟩
 rw[ac.out]at U
 obtain⟨a1,c1,rfl⟩:=U.cases
 have bj:w.heap.size+1<W0.heap.size:=by have:=ac.out;omega
 have an:Hid (w1.heap[w.heap.size]? =some (.cells (d9 h (.slice ak h.keys.length ck) (.slice a m.len c)) 31 (0,0))):=(aj.block _ (by omega)).trans al.out
 have aZ:=AF ((aj.block _ bj).trans az.out)
 have aE:Hid (Below (w.heap.size+2) W0 w1):=aj.mono (by rw[ac.out];exact AG _)
 have aT:=AF U
 clear aj U x5
 have y5:w1.cell? ⟨w.heap.size,5,none⟩=some (.slice ak h.keys.length ck):=by rw[dW an.out];rfl
 have z5:w1.frozen? ⟨w.heap.size,5,none⟩=false:=dY an.out 5
 go_upto_region 2 with(fail)
 have aA:Hid ((w1.setCell ⟨w.heap.size,5,none⟩ (.slice a1 h.keys.length c1)).heap[w.heap.size]? =some (.cells (d9 h (.slice a1 h.keys.length c1) (.slice a m.len c)) 31 (0,0))):=d7 (j:=5) an.out _
 have aY:Hid ((w1.setCell ⟨w.heap.size,5,none⟩ (.slice a1 h.keys.length c1)).heap[w.heap.size+1]? =some (.cells #[.int .u8 0,.bool false,.int .i64 0,.int .u64 0,.string ⟨#[]⟩,.slice none 0 0,.slice none 0 0] 31 (0,0))):=(Below.heap_setCell _ _ _ _ (by show w.heap.size+1≠w.heap.size;omega)).trans aZ.out
 have aq:Hid (Below w.heap.size w (w1.setCell ⟨w.heap.size,5,none⟩ (.slice a1 h.keys.length c1))):=(ar.out.trans (aE.out.mono (by omega))).setCell (p:=⟨w.heap.size,5,none⟩) (AG _) _
 have aS:Hid (Strs (Nu (w.heap.size+2) (w1.setCell ⟨w.heap.size,5,none⟩ (.slice a1 h.keys.length c1))) (w1.setCell ⟨w.heap.size,5,none⟩ (.slice a1 h.keys.length c1)) (.slice a1 h.keys.length c1) h.keys):=
  (aT.out.kept (λb o=>Below.heap_setCell _ _ _ _ (λe=>by have e2:b=w.heap.size:=e;have:=o.1;omega))).mono (λb o=>⟨o.1,by simp[World.setCell];exact o.2.1,λj=>by rw[World.frozen?_setCell];exact o.2.2 j⟩)
 have aQ:Hid (w.heap.size+2<=(w1.setCell ⟨w.heap.size,5,none⟩ (.slice a1 h.keys.length c1)).heap.size):=by unfold Hid;simp[World.setCell];have:=aE.out.size;omega
 clear y5 z5 an aZ aE aT
 generalize World.setCell w1 _ _=W1 at*
 have x6:W1.cell? ⟨w.heap.size,6,none⟩=some (.slice a m.len c):=by rw[dW aA.out];rfl
 go_wp2_with fail
 refine(KX.out _ aq.out).mono ?_
 rintro e w2 ⟨v2,rfl,ai,a2,c2,rfl,k1,k2,k3⟩
 have bP:w.heap.size+2<=W1.heap.size:=aQ.out
 have am:Hid (w2.heap[w.heap.size]? =some (.cells (d9 h (.slice a1 h.keys.length c1) (.slice a m.len c)) 31 (0,0))):=(ai.block _ (by omega)).trans aA.out
 have aX:=AF ((ai.block _ (by omega)).trans aY.out)
 have af:=AF ai
 have aC:=AF k3
 clear ai k3 x6
 have y6:w2.cell? ⟨w.heap.size,6,none⟩=some (.slice a m.len c):=by rw[dW am.out];rfl
 have z6:w2.frozen? ⟨w.heap.size,6,none⟩=false:=dY am.out 6
 go_upto_region 3 with(fail)
 have a7:Hid ((w2.setCell ⟨w.heap.size,6,none⟩ (.slice a2 m.len c2)).heap[w.heap.size]? =some (.cells (d9 h (.slice a1 h.keys.length c1) (.slice a2 m.len c2)) 31 (0,0))):=d7 (j:=6) am.out _
 have bE:Hid ((w2.setCell ⟨w.heap.size,6,none⟩ (.slice a2 m.len c2)).heap[w.heap.size+1]? =some (.cells #[.int .u8 0,.bool false,.int .i64 0,.int .u64 0,.string ⟨#[]⟩,.slice none 0 0,.slice none 0 0] 31 (0,0))):=(Below.heap_setCell _ _ _ _ (by show w.heap.size+1≠w.heap.size;omega)).trans aX.out
 have ap:Hid (Below w.heap.size w (w2.setCell ⟨w.heap.size,6,none⟩ (.slice a2 m.len c2))):=(aq.out.trans (af.out.mono aq.out.size)).setCell (p:=⟨w.heap.size,6,none⟩) (AG _) _
 have ay:Hid (∀b,UnF w2 b->UnF (w2.setCell ⟨w.heap.size,6,none⟩ (.slice a2 m.len c2)) b):=λb o j=>by rw[World.frozen?_setCell];exact o j
 have ao:Hid (∀b,b≠w.heap.size->(w2.setCell ⟨w.heap.size,6,none⟩ (.slice a2 m.len c2)).heap[b]? =w2.heap[b]?):=λb o=>Below.heap_setCell _ _ _ _ o
 have aP:Hid ((w2.setCell ⟨w.heap.size,6,none⟩ (.slice a2 m.len c2)).heap.size=w2.heap.size):=by unfold Hid;simp[World.setCell]
 clear y6 z6
 generalize World.setCell w2 _ _=V at*
 have bO:W1.heap.size<=V.heap.size:=by have:=aP.out;have:=af.out.size;omega
 have ab:Hid (∀g,(m.len≠0->W1.heap.size<=g)->(m.len=0->V.heap.size<=g)->Strs (Ng (w.heap.size+2) g V) V (.slice a1 h.keys.length c1) h.keys):=λg hg bn=>by
  refine((aS.out.kept (λb o=>af.out.block b o.2.1)).kept (λb o=>ao.out b (by have:=o.1;omega))).mono (λb o=>⟨o.1,by have:=o.2.1;omega,ay.out b ((o.2.2).same (af.out.block b o.2.1)),λe=> ?_⟩)
  have:=o.2.1
  by_cases h0:m.len=0
  · have:=bn h0;omega
  · have:=hg h0;omega
 have aR:Hid (CpX (w.heap.size+2) (λb=>ok b/\b<w.heap.size) a2 V .nil m):=λaa=>by
  obtain⟨g,e1,e2,R,e4,e5⟩:=aC.out (by rintro rfl;exact aa rfl)
  refine⟨g,e1,by omega,by have:=aP.out;omega,ay.out g e4,trivial,?_⟩
  have bm:g≠w.heap.size:=by omega
  have:=fF.move (ok':=λb=>ok b/\b<w.heap.size) (w':=V) (λb o=>⟨o.1,ao.out b (by have:=o.1.2;omega)⟩) m g 0 g 0 (λj _=>by rw[World.cell?_of_block (w:=w2) (ao.out g bm)]) e5
  simpa[Vl.len]using this
 have bd:Hid (∀g,a2=some ⟨g,0,none⟩->m.len≠0->W1.heap.size<=g):=λg hg aa=>by
  obtain⟨g',e1,e2,-⟩:=aC.out (by rintro rfl;exact aa rfl)
  rw[e1]at hg
  injection hg with hg;injection hg with hg
  omega
 have bZ:=AF (AH V.heap.size V)
 obtain⟨gg,av,aM,au⟩:∃gg,(m.len≠0->W1.heap.size<=gg/\a2=some ⟨gg,0,none⟩)/\(m.len=0->V.heap.size<=gg)/\Strs (Ng (w.heap.size+2) gg V) V (.slice a1 h.keys.length c1) h.keys:=by
  by_cases h0:m.len=0
  · exact⟨V.heap.size,λh=>absurd h0 h,λ_=>AG _,ab.out _ (λh=>absurd h0 h) (λ_=>AG _)⟩
  · obtain⟨g,e1,-⟩:=aR.out (by simp[Vl.len];exact h0)
    exact⟨g,λ_=>⟨bd.out g e1 h0,e1⟩,λh=>absurd h h0,ab.out g (λ_=>bd.out g e1 h0) (λh=>absurd h h0)⟩
 have bH:=AF av
 have bG:=AF au
 clear ab av aM au aC ay ao af am aX aq aA aY aS aQ ar al az ac KS KX
 have x6:V.cell? ⟨w.heap.size,6,none⟩=some (.slice a2 m.len c2):=by rw[dW a7.out];rfl
 go_wp2_with fail
 clear x6
 go_loopw [16] (λi wr=>∃(k:Nat) (d r:Vl),i=.int .i64 (k:Nat)/\k+r.len=m.len/\Hid (Vl.app d r=m)/\Hid (d.len=k)/\Hid (wr.heap[w.heap.size]? =some (.cells (d9 h (.slice a1 h.keys.length c1) (.slice a2 m.len c2)) 31 (0,0)))/\
  Hid (wr.heap[w.heap.size+1]? =some (.cells #[.int .u8 0,.bool false,.int .i64 0,.int .u64 0,.string ⟨#[]⟩,.slice none 0 0,.slice none 0 0] 31 (0,0)))/\Hid (Below w.heap.size w wr)/\w.heap.size+2<=wr.heap.size/\
  Hid (CpX (w.heap.size+2) (λb=>ok b/\b<w.heap.size) a2 wr d r)/\Hid (Strs (Ng (w.heap.size+2) gg wr) wr (.slice a1 h.keys.length c1) h.keys)/\eX r<=eX m/\Hid (smX r)) (λi _=>m.len - (intOf i).toNat)
 case atStart=>exact⟨0,.nil,m,rfl,by omega,rfl,rfl,a7,bE,ap,by omega,aR,bG,AG _,bA⟩
 case round=>
  obtain⟨k,d,r,rfl,hk,HD,ae,HP,HR,HB,bM,HX,HY,bp,bz⟩:=hrel
  cases r with
  | nil=>
    simp only[Vl.len]at hk
    have bU:¬(k:Int)<(m.len:Int):=by omega
    have HE:Hid (d=m):=by have:=HD.out;rwa[Vl.app_nil]at this
    have p0:wr.cell? ⟨w.heap.size,0,none⟩=some (.int .u8 (h.kind:Nat)):=by rw[dW HP.out];rfl
    have p1:wr.cell? ⟨w.heap.size,1,none⟩=some (.bool h.b):=by rw[dW HP.out];rfl
    have p2:wr.cell? ⟨w.heap.size,2,none⟩=some (.int .i64 h.n):=by rw[dW HP.out];rfl
    have p3:wr.cell? ⟨w.heap.size,3,none⟩=some (.int .u64 (h.bits:Nat)):=by rw[dW HP.out];rfl
    have p4:wr.cell? ⟨w.heap.size,4,none⟩=some (.string h.text):=by rw[dW HP.out];rfl
    have p5:wr.cell? ⟨w.heap.size,5,none⟩=some (.slice a1 h.keys.length c1):=by rw[dW HP.out];rfl
    have p6:wr.cell? ⟨w.heap.size,6,none⟩=some (.slice a2 m.len c2):=by rw[dW HP.out];rfl
    have r0:wr.cell? ⟨w.heap.size+1,0,none⟩=some (.int .u8 0):=by rw[dW HR.out];rfl
    have r1:wr.cell? ⟨w.heap.size+1,1,none⟩=some (.bool false):=by rw[dW HR.out];rfl
    have r2:wr.cell? ⟨w.heap.size+1,2,none⟩=some (.int .i64 0):=by rw[dW HR.out];rfl
    have r3:wr.cell? ⟨w.heap.size+1,3,none⟩=some (.int .u64 0):=by rw[dW HR.out];rfl
    have r4:wr.cell? ⟨w.heap.size+1,4,none⟩=some (.string ⟨#[]⟩):=by rw[dW HR.out];rfl
    have r5:wr.cell? ⟨w.heap.size+1,5,none⟩=some (.slice none 0 0):=by rw[dW HR.out];rfl
    have r6:wr.cell? ⟨w.heap.size+1,6,none⟩=some (.slice none 0 0):=by rw[dW HR.out];rfl
    have rz:=dY HR.out
    have A:=AF (o7 (w:=wr) (g:=w.heap.size+1) (p:=0) (.int .u8 (h.kind:Nat)) (.bool h.b) (.int .i64 h.n) (.int .u64 (h.bits:Nat)) (.string h.text) (.slice a1 h.keys.length c1) (.slice a2 m.len c2) r0 r1 r2 r3 r4 r5 r6)
    simp only[Nat.zero_add]at A
    go_wp2_with fail
    generalize O:World.setCell _ _ _=W3 at*
    clear O
    refine⟨rfl,_,iZ rfl rfl A.out.is,⟨_,rfl,⟨_,_,rfl,?_,?_⟩,HB.out.trans (A.out.below (by omega))⟩⟩
    · refine(HY.out.kept (λb o=>A.out.oth b (by have:=o.1;omega))).mono (λb o=>⟨by have:=o.1;omega,by rw[A.out.size];exact o.2.1,A.out.unf b o.2.2.1⟩)
    · rw[<-HE.out]
      refine⟨a2,c2,by rw[HE.out],by rw[HE.out];exact k1,k2,λaa=> ?_⟩
      obtain⟨g,e1,e2,R,e4,e5,-⟩:=HX.out (λe=>aa (kX (by simp only[Vl.len]at e;show d.len=0;omega)))
      have bk:g≠w.heap.size+1:=by omega
      refine⟨g,0,e1,⟨by omega,by rw[A.out.size];exact R,A.out.unf g e4⟩,fF.move (λb o=>⟨⟨by have:=o.1;omega,by rw[A.out.size];exact o.2.1,A.out.unf b o.2.2.1⟩,A.out.oth b (by have:=o.1;omega)⟩) _ g 0 g 0 (λj _=>by rw[World.cell?_of_block (w:=wr) (A.out.oth g bk)]) e5⟩
  | cons E I r=>
    simp only[Vl.len]at hk
    simp only[eX]at bp
    have bL:(k:Int)<(m.len:Int):=by omega
    have bT:(0:Int)<=(k:Int):=by omega
    obtain⟨g,rfl,e2,R,e4,e5,e6⟩:=HX.out (by simp[Vl.len])
    rw[ae.out]at e6
    obtain⟨bW,ah⟩:=bH.out (by omega)
    obtain rfl:g=gg:=by injection ah with ah;injection ah with ah
    obtain⟨⟨c0,aO,aN,c3,c4,v5,c5,ax⟩,⟨ag,cg,c6,q1,q2,q3⟩,Z⟩:=e6
    obtain⟨aJ,aI,aH⟩:=bz.out
    have KC:Hid (∀W,Below wr.heap.size wr W->Calls Tryz.prog 42 #[.agg #[.int .u8 (E.kind:Nat),.bool E.b,.int .i64 E.n,.int .u64 (E.bits:Nat),.string E.text,v5,.slice ag I.len cg]] W (CdP ⟨E,I⟩ W)):=λW G=>
     IH.out ⟨E,I⟩ (by show eX I<n;omega) (λb=>ok b/\b<w.heap.size) _ W ⟨aJ,aI,by show eX I<=_;omega⟩ (g9.kept ⟨_,_,rfl,ax,ag,cg,rfl,q1,q2,q3⟩ (λb o=>G.block b (by have:=o.2;omega)))
    obtain⟨N,M,rfl⟩:=ax.cases
    have HA:Hid (Below wr.heap.size wr (wr.alloc (.cells (d9 E (.slice N E.keys.length M) (.slice ag I.len cg)) 31))):=(AH _ wr).alloc (AG _) _
    have HT:Hid ((wr.alloc (.cells (d9 E (.slice N E.keys.length M) (.slice ag I.len cg)) 31)).heap[wr.heap.size]? =some (.cells (d9 E (.slice N E.keys.length M) (.slice ag I.len cg)) 31 (0,0))):=heap_alloc_new wr _
    have HS:Hid ((wr.alloc (.cells (d9 E (.slice N E.keys.length M) (.slice ag I.len cg)) 31)).heap.size=wr.heap.size+1):=by unfold Hid;simp
    unfold d9 at HA HT HS
    have p6:wr.cell? ⟨w.heap.size,6,none⟩=some (.slice (some ⟨g,0,none⟩) m.len c2):=by rw[dW HP.out];rfl
    have b0:Hid (∀j,j<(Vl.cons E I r).len*7+k*7->∀W,Below wr.heap.size wr W->W.cell? ⟨g,j,none⟩=wr.cell? ⟨g,j,none⟩):=λj _ W G=>G.cell (p:=⟨g,j,none⟩) R
    have ba:Hid (∀W,Below wr.heap.size wr W->UnF W g):=λW G=>e4.same (G.block g R)
    have bC:=AF Z
    have bI:=AF e5
    have a8:=AF hk
    have bS:k+1+r.len<=m.len:=by omega
    have aU:=AF aH
    have aK:w.heap.size<wr.heap.size:=by omega
    clear Z e5 q3 ax aJ aI aH hk
    have be:Hid (∀W,Below wr.heap.size wr W->W.cell? ⟨g,k*7,none⟩=some (.int .u8 (E.kind:Nat))/\W.cell? ⟨g,k*7+1,none⟩=some (.bool E.b)/\W.cell? ⟨g,k*7+2,none⟩=some (.int .i64 E.n)/\W.cell? ⟨g,k*7+3,none⟩=some (.int .u64 (E.bits:Nat))/\W.cell? ⟨g,k*7+4,none⟩=some (.string E.text)/\
     W.cell? ⟨g,k*7+5,none⟩=some (.slice N E.keys.length M)/\W.cell? ⟨g,k*7+6,none⟩=some (.slice ag I.len cg)):=λW G=>
     ⟨(G.cell (p:=⟨g,_,none⟩) R).trans c0,(G.cell (p:=⟨g,_,none⟩) R).trans aO,(G.cell (p:=⟨g,_,none⟩) R).trans aN,(G.cell (p:=⟨g,_,none⟩) R).trans c3,(G.cell (p:=⟨g,_,none⟩) R).trans c4,(G.cell (p:=⟨g,_,none⟩) R).trans c5,(G.cell (p:=⟨g,_,none⟩) R).trans c6⟩
    go_upto_region 6 with(fail)
    generalize O:World.alloc wr _=W3 at*
    clear O c0 aO aN c3 c4 c5 c6 p6
    have aD:Hid (∀W:World,W.heap[w.heap.size]? =W3.heap[w.heap.size]?→W.heap[wr.heap.size]? =W3.heap[wr.heap.size]?→W.cell? ⟨w.heap.size,6,none⟩=some (.slice (some ⟨g,0,none⟩) m.len c2)/\
     W.cell? ⟨wr.heap.size,0,none⟩=some (.int .u8 (E.kind:Nat))/\W.cell? ⟨wr.heap.size,1,none⟩=some (.bool E.b)/\W.cell? ⟨wr.heap.size,2,none⟩=some (.int .i64 E.n)/\W.cell? ⟨wr.heap.size,3,none⟩=some (.int .u64 (E.bits:Nat))/\W.cell? ⟨wr.heap.size,4,none⟩=some (.string E.text)/\
     W.cell? ⟨wr.heap.size,5,none⟩=some (.slice N E.keys.length M)/\W.cell? ⟨wr.heap.size,6,none⟩=some (.slice ag I.len cg)):=λW h1 h2=>by
     have hP:=h1.trans ((HA.out.block _ aK).trans HP.out)
     obtain⟨u0,u1,u2,u3,u4,u5,u6⟩:=fR (h:=E) (h2.trans HT.out)
     exact⟨by rw[dW hP];rfl,u0,u1,u2,u3,u4,u5,u6⟩
    have bs:Hid (∀W,Hid (Below (wr.heap.size+1) W3 W)->Calls Tryz.prog 42 #[.agg #[.int .u8 (E.kind:Nat),.bool E.b,.int .i64 E.n,.int .u64 (E.bits:Nat),.string E.text,.slice N E.keys.length M,.slice ag I.len cg]] W λe w'=>
     ∃n5 m5 n6 m6,e=.returned (.agg #[.int .u8 (E.kind:Nat),.bool E.b,.int .i64 E.n,.int .u64 (E.bits:Nat),.string E.text,.slice n5 E.keys.length m5,.slice n6 I.len m6])/\Hid (Strs (Nu (wr.heap.size+1) w') w' (.slice n5 E.keys.length m5) E.keys/\gb (Nu (wr.heap.size+1) w') w' (.slice n6 I.len m6) I)/\Hid (Below (wr.heap.size+1) W3 w')):=λW G=>by
     have br:wr.heap.size+1<=W.heap.size:=by have:=G.out.size;rw[HS.out]at this;exact this
     refine(KC.out W (HA.out.trans (G.out.mono (by omega)))).mono ?_
     rintro e w' ⟨v',rfl,⟨uk,ui,rfl,hu,aG⟩,o⟩
     have hn:∀b,Nu W.heap.size w' b->Nu (wr.heap.size+1) w' b:=λb o=>⟨by have:=o.1;omega,o.2⟩
     obtain⟨n5,m5,rfl⟩:=hu.cases
     obtain⟨n6,m6,rfl,-⟩:=id aG
     exact⟨n5,m5,n6,m6,rfl,⟨hu.mono hn,aG.mono hn⟩,G.out.trans (o.mono br)⟩
    have bJ:Hid (Below (wr.heap.size+1) W3 W3.drew):=⟨rfl,rfl,rfl,AG _,λ_ _=>rfl⟩
    have bB:=AF (aD.out W3.drew rfl rfl)
    have bw:Hid (∀W,Below (wr.heap.size+1) W3 W->∀a0 a1 a2 a3 a4 a5 a6,fP W (((((((W.setCell ⟨g,k*7,none⟩ a0).setCell ⟨g,k*7+1,none⟩ a1).setCell ⟨g,k*7+2,none⟩ a2).setCell ⟨g,k*7+3,none⟩ a3).setCell ⟨g,k*7+4,none⟩ a4).setCell ⟨g,k*7+5,none⟩ a5).setCell ⟨g,k*7+6,none⟩ a6) g (k*7) 7 [a0,a1,a2,a3,a4,a5,a6]):=λW G a0 a1 a2 a3 a4 a5 a6=>by
     obtain⟨t0,t1,t2,t3,t4,t5,t6⟩:=be.out W (HA.out.trans (G.mono (by omega)))
     exact o7 a0 a1 a2 a3 a4 a5 a6 t0 t1 t2 t3 t4 t5 t6
    go_region_held3 (λW=>W.cell? ⟨w.heap.size,6,none⟩=some (.slice (some ⟨g,0,none⟩) m.len c2)/\
     W.cell? ⟨wr.heap.size,0,none⟩=some (.int .u8 (E.kind:Nat))/\W.cell? ⟨wr.heap.size,1,none⟩=some (.bool E.b)/\W.cell? ⟨wr.heap.size,2,none⟩=some (.int .i64 E.n)/\W.cell? ⟨wr.heap.size,3,none⟩=some (.int .u64 (E.bits:Nat))/\W.cell? ⟨wr.heap.size,4,none⟩=some (.string E.text)/\
     W.cell? ⟨wr.heap.size,5,none⟩=some (.slice N E.keys.length M)/\W.cell? ⟨wr.heap.size,6,none⟩=some (.slice ag I.len cg)) (first | with_reducible exact bB.out | with_reducible exact aW.out | with_reducible exact aV.out)
     (first | (go_at_call 42;refine(bs.out _ bJ).mono ?_;rintro e Y ⟨n5,m5,n6,m6,rfl,aF,K⟩;have aW:=AF (aD.out Y (K.out.block _ (by omega)) (K.out.block _ (Nat.lt_succ_self _)));obtain⟨t0,t1,t2,t3,t4,t5,t6⟩:=be.out Y (HA.out.trans (K.out.mono (by omega)));have tz:∀j,Y.frozen? ⟨g,j,none⟩=false:=ba.out Y (HA.out.trans (K.out.mono (by omega)));have A:=AF (bw.out Y K.out (.int .u8 (E.kind:Nat)) (.bool E.b) (.int .i64 E.n) (.int .u64 (E.bits:Nat)) (.string E.text) (.slice n5 E.keys.length m5) (.slice n6 I.len m6));have aV:=AF (aD.out _ ((A.out.oth _ (by omega)).trans (K.out.block _ (by omega))) ((A.out.oth _ (by omega)).trans (K.out.block _ (Nat.lt_succ_self _))))))
    have ab:=aF
    have ap:=K
    clear aF K aW aV t0 t1 t2 t3 t4 t5 t6 tz
    generalize O:World.setCell _ _ _=W5 at*
    clear O
    have bN:wr.heap.size+1<=Y.heap.size:=by have:=ap.out.size;rw[HS.out]at this;exact this
    have J:Hid (Below wr.heap.size wr Y):=HA.out.trans (ap.out.mono (by omega))
    have bK:Hid (Below w.heap.size w W5):=(HB.out.trans (J.out.mono (by omega))).trans (A.out.below (by omega))
    have ad:Hid (∀b,b<wr.heap.size->b≠g->W5.heap[b]? =wr.heap[b]?):=λb o hg=>(A.out.oth b hg).trans (J.out.block b o)
    have bc:Hid (∀b,Ng (w.heap.size+2) g wr b->Ng (w.heap.size+2) g W5 b):=λb o=>⟨o.1,by rw[A.out.size];have:=o.2.1;omega,A.out.unf b (o.2.2.1.same (J.out.block b o.2.1)),o.2.2.2⟩
    have aB:Hid (∀b,Nu (wr.heap.size+1) Y b->Ng (w.heap.size+2) g W5 b):=λb o=>⟨by have:=o.1;omega,by rw[A.out.size];exact o.2.1,A.out.unf b o.2.2,by have:=o.1;omega⟩
    have bv:Hid (CpX (w.heap.size+2) (λb=>ok b/\b<w.heap.size) (some ⟨g,0,none⟩) W5 (Vl.app d (.cons E I .nil)) r):=λ_=>by
     have bo:(Vl.app d (.cons E I .nil)).len=k+1:=by rw[Vl.len_app,ae.out];rfl
     refine⟨g,rfl,e2,by rw[A.out.size];omega,A.out.unf g (ba.out Y J.out),fF.app _ _ _ _ ?_ ?_,?_⟩
     · refine fF.move (λb o=>⟨bc.out b o,ad.out b o.2.1 o.2.2.2⟩) _ g 0 g 0 (λj hj=> ?_) bI.out
       rw[ae.out]at hj
       rw[A.out.far _ (.inl (by omega)),J.out.cell (p:=⟨g,_,none⟩) R]
     · rw[ae.out,Nat.zero_add]
       obtain⟨bi,bY,bX,bf,i1,i2,i3⟩:=ab.out
       injection bf with U bQ bg
       subst U bg
       have aL:eL (Nu (wr.heap.size+1) Y) Y W5:=λb o=>A.out.oth b (by have:=o.1;omega)
       refine⟨⟨A.out.is 0 _ rfl,A.out.is 1 _ rfl,A.out.is 2 _ rfl,A.out.is 3 _ rfl,A.out.is 4 _ rfl,_,A.out.is 5 _ rfl,(bi.kept aL).mono aB.out⟩,⟨_,_,A.out.is 6 _ rfl,i1,i2,λhn=> ?_⟩,trivial⟩
       obtain⟨b',o',j1,j2,j3⟩:=i3 hn
       exact⟨b',o',j1,aB.out b' j2,(fF.kept aL _ _ _ j2 j3).mono aB.out⟩
     · rw[bo,show(k+1)*7=k*7+7 by omega]
       refine fF.move (λb o=>⟨o,ad.out b (by have:=o.2;omega) (by have:=o.2;omega)⟩) _ g _ g _ (λj hj=> ?_) bC.out
       rw[A.out.far _ (.inr (by omega)),J.out.cell (p:=⟨g,_,none⟩) R]
    have bu:Hid (Strs (Ng (w.heap.size+2) g W5) W5 (.slice a1 h.keys.length c1) h.keys):=(HY.out.kept (λb o=>ad.out b o.2.1 o.2.2.2)).mono bc.out
    have bF:Hid (W5.heap[w.heap.size]? =some (.cells (d9 h (.slice a1 h.keys.length c1) (.slice (some ⟨g,0,none⟩) m.len c2)) 31 (0,0))):=(ad.out _ aK (by omega)).trans HP.out
    have bD:Hid (W5.heap[w.heap.size+1]? =some (.cells #[.int .u8 0,.bool false,.int .i64 0,.int .u64 0,.string ⟨#[]⟩,.slice none 0 0,.slice none 0 0] 31 (0,0))):=(ad.out _ (by omega) (by omega)).trans HR.out
    have bt:Hid (w.heap.size+2<=W5.heap.size):=by unfold Hid;rw[A.out.size];omega
    go_wp2_with fail
    go_roundw
    case rel=>exact⟨k+1,_,r,by go_num,by have:=a8.out;omega,by unfold Hid;rw[Vl.app_one];exact HD.out,by unfold Hid;rw[Vl.len_app,ae.out];rfl,bF,bD,bK,bt.out,bv,bu,by omega,aU⟩
    case measure=>simp[intOf];have:=a8.out;omega
theorem zd (n:Nat):uc n:=by
 induction n with
 | zero=>intro x h;exact absurd h (Nat.not_lt_zero _)
 | succ n m=>exact xM n m
theorem ke (x:Va)(ok:Nat->Prop)(v:Value)(w:World)(m:Va.sm x)(hx:g9 ok w v x):Calls Tryz.prog 42 #[v] w (CdP x w):=
 zd (eX x.items+1) x (Nat.lt_succ_self _) ok v w m hx
theorem ql (x:ByteArray):∀(l:List ByteArray) (i:Nat),Lib.idxFromS l x i=if gX x l<l.length then((i+gX x l:Nat):Int)else -1
 | [],i=>rfl
 | k::r,i=>by
   unfold Lib.idxFromS gX
   by_cases h:k=x
   · simp[h]
   · rw[if_neg h,if_neg h,ql x r (i+1)]
     simp only[List.length_cons,Nat.add_lt_add_iff_right]
     split
     · congr 1;omega
     · rfl
theorem yS (x:ByteArray)(l:List ByteArray):Lib.idxOfS (l.take l.length) x=if gX x l<l.length then((gX x l:Nat):Int)else -1:=by
 rw[List.take_length,Lib.idxOfS,ql,Nat.zero_add]
theorem rY {t:Vl}:∀{i:Nat} {x:Va},smX t->t.get i=some x->x.h.sm/\smX x.items:=by
 induction t with
 | nil=>intro i x _ h;cases h
 | cons h k r _ m=>
   intro i x hw hx
   cases i with
   | zero=>cases hx;exact⟨hw.1,hw.2.1⟩
   | succ i=>exact m hw.2.2 hx
theorem vq {t:Vl}:∀{i:Nat} {x:Va},t.get i=some x->eX x.items<=eX t:=by
 induction t with
 | nil=>intro i x h;cases h
 | cons h k r _ m=>
   intro i x hx
   cases i with
   | zero=>cases hx;simp only[eX];omega
   | succ i=>have:=m (i:=i) hx;simp only[eX];omega
theorem Va.sm_get {v x:Va}{i:Nat}(h:Va.sm v)(hx:v.items.get i=some x):Va.sm x:=
 ⟨(rY h.2.1 hx).1,(rY h.2.1 hx).2,Nat.le_trans (vq hx) h.2.2⟩
def xY (r:Except Nat Va)(w:World)(e:Ending)(w':World):Prop:=Below w.heap.size w w'/\match r with
 | .ok x=>∃m,e=.returned (.tuple #[m,.int .i64 0])/\g9 (Nu w.heap.size w') w' m x/\Va.sm x
 | .error n=>e=.returned (.tuple #[.agg #[.int .u8 0,.bool false,.int .i64 0,.int .u64 0,.string ⟨#[]⟩,.slice none 0 0,.slice none 0 0],.int .i64 (n:Nat)])
theorem eJ {fn:Func}{k t:Tmp}{b:Nat}{I G E A r o m z:Value}{tmps:Array Value}{w:World}(h:fn.results=#[.cell k 31,.tmp t])(N:tmps.getD k undef=.pointer (some ⟨b,0,none⟩))(M:tmps.getD t undef=z)
 (c:∀j u,[I,G,E,A,r,o,m][j]? =some u->w.cell? ⟨b,0+j,none⟩=some u):
 (results fn tmps).run Tryz.prog w=.ok (.tuple #[.agg #[I,G,E,A,r,o,m],z]) w:=by
 have c0:w.cell? ⟨b,0,none⟩=some I:=c 0 _ rfl
 have c1:w.cell? ⟨b,1,none⟩=some G:=c 1 _ rfl
 have c2:w.cell? ⟨b,2,none⟩=some E:=c 2 _ rfl
 have c3:w.cell? ⟨b,3,none⟩=some A:=c 3 _ rfl
 have c4:w.cell? ⟨b,4,none⟩=some r:=c 4 _ rfl
 have c5:w.cell? ⟨b,5,none⟩=some o:=c 5 _ rfl
 have c6:w.cell? ⟨b,6,none⟩=some m:=c 6 _ rfl
 have K:tmps[k]?.getD undef=.pointer (some ⟨b,0,none⟩):=by rw[<-N];simp
 have J:tmps[t]?.getD undef=z:=by rw[<-M];simp
 clear c N M
 simp[results,h,K,J,go_sem,c0,c1,c2,c3,c4,c5,c6]
def eQ:Array Value:=#[.int .u8 0,.bool false,.int .i64 0,.int .u64 0,.string ⟨#[]⟩,.slice none 0 0,.slice none 0 0]
theorem jj {w:World}{P:Nat}{T:TypeId}{U R N M J I E:Value}(h:w.heap[P]? =some (.cells #[U,R,N,M,J,I,E] T (0,0)))(m o r A G K O:Value):
 (((((((w.setCell ⟨P,0,none⟩ m).setCell ⟨P,1,none⟩ o).setCell ⟨P,2,none⟩ r).setCell ⟨P,3,none⟩ A).setCell ⟨P,4,none⟩ G).setCell ⟨P,5,none⟩ K).setCell ⟨P,6,none⟩ O).heap[P]? =some (.cells #[m,o,r,A,G,K,O] T (0,0)):=by
 have h0:(w.setCell ⟨P,0,none⟩ m).heap[P]? =some (.cells #[m,R,N,M,J,I,E] T (0,0)):=d7 (j:=0) h m
 have h1:((w.setCell ⟨P,0,none⟩ m).setCell ⟨P,1,none⟩ o).heap[P]? =some (.cells #[m,o,N,M,J,I,E] T (0,0)):=d7 (j:=1) h0 o
 have Z:(((w.setCell ⟨P,0,none⟩ m).setCell ⟨P,1,none⟩ o).setCell ⟨P,2,none⟩ r).heap[P]? =some (.cells #[m,o,r,M,J,I,E] T (0,0)):=d7 (j:=2) h1 r
 have Y:((((w.setCell ⟨P,0,none⟩ m).setCell ⟨P,1,none⟩ o).setCell ⟨P,2,none⟩ r).setCell ⟨P,3,none⟩ A).heap[P]? =some (.cells #[m,o,r,A,J,I,E] T (0,0)):=d7 (j:=3) Z A
 have W:(((((w.setCell ⟨P,0,none⟩ m).setCell ⟨P,1,none⟩ o).setCell ⟨P,2,none⟩ r).setCell ⟨P,3,none⟩ A).setCell ⟨P,4,none⟩ G).heap[P]? =some (.cells #[m,o,r,A,G,I,E] T (0,0)):=d7 (j:=4) Y G
 have V:((((((w.setCell ⟨P,0,none⟩ m).setCell ⟨P,1,none⟩ o).setCell ⟨P,2,none⟩ r).setCell ⟨P,3,none⟩ A).setCell ⟨P,4,none⟩ G).setCell ⟨P,5,none⟩ K).heap[P]? =some (.cells #[m,o,r,A,G,K,E] T (0,0)):=d7 (j:=5) W K
 exact d7 (j:=6) V O
theorem lf {l:List ByteArray}{k:Nat}{s:ByteArray}(h:l[k]? =some s):l.drop k=s::l.drop (k+1):=by
 have m:=(List.getElem?_eq_some_iff.1 h).1
 rw[List.drop_eq_getElem_cons m,(List.getElem?_eq_some_iff.1 h).2]
structure Ac (B:Nat)(w0 w:World)(ok:Nat->Prop)(x:Va)(vk vi:Value):Prop where
 res:w.heap[B+3]? =some (.cells eQ 31 (0,0))
 at_:w.heap[B+4]? =some (.cells (d9 x.h vk vi) 31 (0,0))
 keys:Strs (λb=>ok b/\b<B) w vk x.h.keys
 items:gb (λb=>ok b/\b<B) w vi x.items
 bel:Below B w0 w
 size:B+5<=w.heap.size
 sm:Va.sm x
theorem sY (dot root:Va)(rt:Bool)(names:List ByteArray)(bf:Va.sm dot)(be:Va.sm root)(bA:names.length<=140737488351232)(ok:Nat->Prop)(vd vr vn:Value)(w:World)(hd:g9 ok w vd dot)(hr:g9 ok w vr root)(hn:Strs ok w vn names):
 Calls Tryz.prog 25 #[vd,vr,.agg #[.bool rt,vn]] w (xY (eU names (if rt then root else dot)) w):=by
 obtain⟨bw,bz,rfl,aK,bh⟩:=hd
 obtain⟨bu,bv,rfl,aH,ao⟩:=hr
 have a7:=AF aK.lt
 have a8:=AF (gb.lt bh)
 have aU:=AF aH.lt
 have aV:=AF (gb.lt ao)
 have bj:=AF hn.lt
 obtain⟨a1,c1,rfl⟩:=aK.cases
 obtain⟨a2,c2,rfl,-⟩:=bh
 obtain⟨a3,c3,rfl⟩:=aH.cases
 obtain⟨a4,c4,rfl,-⟩:=ao
 obtain⟨an,cn,rfl⟩:=hn.cases
 have aS:=AF bf
 have aR:=AF be
 clear aK aH hn bf be
 have aE:Hid (Below w.heap.size w ((((w.alloc (.cells (d9 dot.h (.slice a1 dot.h.keys.length c1) (.slice a2 dot.items.len c2)) 31)).alloc (.cells (d9 root.h (.slice a3 root.h.keys.length c3) (.slice a4 root.items.len c4)) 31)).alloc (.cells #[.bool rt,.slice an names.length cn] 54)).alloc (.cells eQ 31))):=
  ((((AH _ w).alloc (AG _) _).alloc (by simp) _).alloc (by simp;omega) _).alloc (by simp;omega) _
 have aC:Hid (((((w.alloc (.cells (d9 dot.h (.slice a1 dot.h.keys.length c1) (.slice a2 dot.items.len c2)) 31)).alloc (.cells (d9 root.h (.slice a3 root.h.keys.length c3) (.slice a4 root.items.len c4)) 31)).alloc (.cells #[.bool rt,.slice an names.length cn] 54)).alloc (.cells eQ 31)).heap.size=w.heap.size+4):=by unfold Hid;simp
 have HT:Hid (∀W0,((((w.alloc (.cells (d9 dot.h (.slice a1 dot.h.keys.length c1) (.slice a2 dot.items.len c2)) 31)).alloc (.cells (d9 root.h (.slice a3 root.h.keys.length c3) (.slice a4 root.items.len c4)) 31)).alloc (.cells #[.bool rt,.slice an names.length cn] 54)).alloc (.cells eQ 31))=W0->
  W0.heap[w.heap.size]? =some (.cells (d9 dot.h (.slice a1 dot.h.keys.length c1) (.slice a2 dot.items.len c2)) 31 (0,0))/\W0.heap[w.heap.size+1]? =some (.cells (d9 root.h (.slice a3 root.h.keys.length c3) (.slice a4 root.items.len c4)) 31 (0,0))/\
  W0.heap[w.heap.size+2]? =some (.cells #[.bool rt,.slice an names.length cn] 54 (0,0))/\W0.heap[w.heap.size+3]? =some (.cells eQ 31 (0,0))):=by
  rintro W0 rfl
  generalize hx:Obj.cells (d9 dot.h (.slice a1 dot.h.keys.length c1) (.slice a2 dot.items.len c2)) 31 (0,0)=X
  generalize hy:Obj.cells (d9 root.h (.slice a3 root.h.keys.length c3) (.slice a4 root.items.len c4)) 31 (0,0)=Y
  generalize hz:Obj.cells #[.bool rt,.slice an names.length cn] 54 (0,0)=Z
  generalize hu:Obj.cells eQ 31 (0,0)=U
  have s1:(w.alloc X).heap.size=w.heap.size+1:=by simp
  have s2:((w.alloc X).alloc Y).heap.size=w.heap.size+2:=by simp
  have s3:(((w.alloc X).alloc Y).alloc Z).heap.size=w.heap.size+3:=by simp
  refine⟨?_,?_,?_,?_⟩
  · rw[Below.heap_alloc _ _ _ (by omega),Below.heap_alloc _ _ _ (by omega),Below.heap_alloc _ _ _ (by omega)]
    exact heap_alloc_new w X
  · rw[Below.heap_alloc _ _ _ (by omega),Below.heap_alloc _ _ _ (by omega)]
    have:=heap_alloc_new (w.alloc X) Y;rwa[s1]at this
  · rw[Below.heap_alloc _ _ _ (by omega)]
    have:=heap_alloc_new ((w.alloc X).alloc Y) Z;rwa[s2]at this
  · have:=heap_alloc_new (((w.alloc X).alloc Y).alloc Z) U;rwa[s3]at this
 unfold eQ d9 at aE aC HT
 go_enter Tryz.func25,Tryz.ntmps25
 go_upto_region 1 with(fail)
 simp only[Nat.add_assoc,Nat.reduceAdd]
 generalize r:World.alloc (World.alloc (World.alloc (World.alloc w _) _) _) _=W0 at*
 obtain⟨h0,h1,h2,h3⟩:=HT.out W0 rfl
 clear r HT
 have bm:=AF h0
 have bk:=AF h1
 have aD:=AF h2
 have aY:=AF h3
 obtain⟨d0,d1,d2,d3,d4,d5,d6⟩:=fR (h:=dot.h) h0
 obtain⟨r0,r1,r2,r3,r4,r5,r6⟩:=fR (h:=root.h) h1
 have q0:W0.cell? ⟨w.heap.size+2,0,none⟩=some (.bool rt):=by rw[dW h2];rfl
 have q1:W0.cell? ⟨w.heap.size+2,1,none⟩=some (.slice an names.length cn):=by rw[dW h2];rfl
 have aB:W0.heap.size=w.heap.size+4:=aC.out
 clear h0 h1 h2 h3
 go_upto_region 2 with(fail)
 have IX:Hid (∀W (l:List ByteArray) (v:Value) (n:ByteArray) (ok:Nat->Prop),l.length<=16777216->Strs ok W v l->Calls Tryz.prog 41 #[v,.string n] W λe w'=>e=.returned (.int .i64 (if gX n l<l.length then((gX n l:Nat):Int)else -1))/\w'=W):=by
  rintro W l v n ok hl ⟨a,c,rfl,-,-,h3⟩
  by_cases h0:l=[]
  · subst h0
    exact Tryz.slices_Index_string_empty a c n W
  · obtain⟨b,o,rfl,-,hc⟩:=h3 h0
    have:=Tryz.slices_Index_string b o l.length c l n W (AG _) (by omega) (λj hj=>by rw[hc j _ (List.getElem?_eq_getElem hj)];simp[List.getD,hj])
    rw[yS]at this
    exact this
 obtain⟨x0,bd⟩:∃x0,(if rt=true then root else dot)=x0:=⟨_,rfl⟩
 have ay:Hid (∀X:Va,∀b1 e1 b2 e2,Strs (λb=>ok b/\b<w.heap.size) w (.slice b1 X.h.keys.length e1) X.h.keys->gb (λb=>ok b/\b<w.heap.size) w (.slice b2 X.items.len e2) X.items->Va.sm X->
  Ac w.heap.size w (W0.alloc (.cells (d9 X.h (.slice b1 X.h.keys.length e1) (.slice b2 X.items.len e2)) 31)) ok X (.slice b1 X.h.keys.length e1) (.slice b2 X.items.len e2)):=by
  intro X b1 e1 b2 e2 h1 h2 h3
  have A:Below w.heap.size w (W0.alloc (.cells (d9 X.h (.slice b1 X.h.keys.length e1) (.slice b2 X.items.len e2)) 31)):=aE.out.alloc (by omega) _
  exact { res:=(Below.heap_alloc _ _ _ (by omega)).trans aY.out
          at_:=by have:=heap_alloc_new W0 (.cells (d9 X.h (.slice b1 X.h.keys.length e1) (.slice b2 X.items.len e2)) 31);rwa[aB]at this
          keys:=h1.kept (λb aN=>A.block b aN.2)
          items:=h2.kept (λb aN=>A.block b aN.2)
          bel:=A
          size:=by simp[aB]
          sm:=h3}
 unfold d9 at ay
 cases rt with
 | true=>
   go_upto_region 4 with(fail)
   have HG:=AF (ay.out root _ _ _ _ aU.out aV.out aR.out)
   clear bd
   clear ay a7 a8 aU aV aS aR d0 d1 d2 d3 d4 d5 d6 r0 r1 r2 r3 r4 r5 r6 q0 bm bk aY
   have q1:(W0.alloc (.cells #[.int .u8 (root.h.kind:Nat),.bool root.h.b,.int .i64 root.h.n,.int .u64 (root.h.bits:Nat),.string root.h.text,.slice a3 root.h.keys.length c3,.slice a4 root.items.len c4] 31)).cell? ⟨w.heap.size+2,1,none⟩=some (.slice an names.length cn):=by
    rw[dW ((Below.heap_alloc _ _ _ (by omega)).trans aD.out)];rfl
   generalize r:World.alloc W0 _=W1 at*
   clear r aE aC aB aD
   go_wp2_with fail
   clear q1
   go_loopw [19] (λi wr=>∃(k:Nat) (x:Va) (b1:Option Addr) (e1:Nat) (b2:Option Addr) (e2:Nat),i=.int .i64 (k:Nat)/\k<=names.length/\Hid (eU (names.drop k) x=eU names root)/\Hid (Ac w.heap.size w wr ok x (.slice b1 x.h.keys.length e1) (.slice b2 x.items.len e2))) (λi _=>names.length - (intOf i).toNat)
   case atStart=>exact⟨0,root,a3,c3,a4,c4,rfl,Nat.zero_le _,by rw[List.drop_zero];rfl,HG⟩
   case round=>
    obtain⟨k,x,b1,e1,b2,e2,rfl,hk,HE,HI⟩:=hrel
    clear HG
    obtain⟨i1,i2,i3,i4,i5,i6,i7⟩:=HI.out
    have br:(0:Int)<=(k:Int):=by omega
    obtain⟨p0,p1,p2,p3,p4,p5,p6⟩:=fR i2
    have G:=AF i1
    have aw:=AF i2
    have HK:=AF i3
    have ax:=AF i4
    have HB:=AF i5
    have ab:=AF i7
    clear i1 i2 i3 i4 i5 i7 HI
    have z0:wr.cell? ⟨w.heap.size+3,0,none⟩=some (.int .u8 0):=by rw[dW G.out];rfl
    have z1:wr.cell? ⟨w.heap.size+3,1,none⟩=some (.bool false):=by rw[dW G.out];rfl
    have z2:wr.cell? ⟨w.heap.size+3,2,none⟩=some (.int .i64 0):=by rw[dW G.out];rfl
    have z3:wr.cell? ⟨w.heap.size+3,3,none⟩=some (.int .u64 0):=by rw[dW G.out];rfl
    have z4:wr.cell? ⟨w.heap.size+3,4,none⟩=some (.string ⟨#[]⟩):=by rw[dW G.out];rfl
    have z5:wr.cell? ⟨w.heap.size+3,5,none⟩=some (.slice none 0 0):=by rw[dW G.out];rfl
    have z6:wr.cell? ⟨w.heap.size+3,6,none⟩=some (.slice none 0 0):=by rw[dW G.out];rfl
    have zf:=dY G.out
    have aa:Hid (∀W,W.heap[w.heap.size+3]? =wr.heap[w.heap.size+3]?→∀a0 a1 a2 a3 a4 a5 a6,fP W (((((((W.setCell ⟨w.heap.size+3,0,none⟩ a0).setCell ⟨w.heap.size+3,1,none⟩ a1).setCell ⟨w.heap.size+3,2,none⟩ a2).setCell ⟨w.heap.size+3,3,none⟩ a3).setCell ⟨w.heap.size+3,4,none⟩ a4).setCell ⟨w.heap.size+3,5,none⟩ a5).setCell ⟨w.heap.size+3,6,none⟩ a6) (w.heap.size+3) 0 7 [a0,a1,a2,a3,a4,a5,a6]):=λW hW a0 a1 a2 a3 a4 a5 a6=>by
     have A:∀j,W.cell? ⟨w.heap.size+3,j,none⟩=wr.cell? ⟨w.heap.size+3,j,none⟩:=λj=>World.cell?_of_block (w:=wr) hW
     exact o7 (p:=0) a0 a1 a2 a3 a4 a5 a6 ((A 0).trans z0) ((A 1).trans z1) ((A 2).trans z2) ((A 3).trans z3) ((A 4).trans z4) ((A 5).trans z5) ((A 6).trans z6)
    have K:Hid (∀n:Nat,eU (names.drop k) x=.error n->∀W',fP wr W' (w.heap.size+3) 0 7 [.int .u8 0,.bool false,.int .i64 0,.int .u64 0,.string ⟨#[]⟩,.slice none 0 0,.slice none 0 0]->xY (eU names root) w (.returned (.tuple #[.agg #[.int .u8 0,.bool false,.int .i64 0,.int .u64 0,.string ⟨#[]⟩,.slice none 0 0,.slice none 0 0],.int .i64 (n:Nat)])) W'):=λn hn W' hW=>by
     rw[<-HE.out,hn]
     exact⟨HB.out.trans (hW.below (by omega)),rfl⟩
    by_cases N:k<names.length
    · have bg:(k:Int)<(names.length:Int):=by omega
      obtain⟨n,aj⟩:∃n,names[k]? =some n:=⟨_,List.getElem?_eq_getElem N⟩
      obtain⟨bn,on,rfl,aL,au⟩:∃bn on,an=some ⟨bn,on,none⟩/\bn<w.heap.size/\w.cell? ⟨bn,on+k,none⟩=some (.string n):=by
       obtain⟨a',c',hv,-,-,h3⟩:=bj.out
       injection hv with hv
       subst hv
       obtain⟨b,o,e1,e2,e3⟩:=h3 (by intro e;rw[e]at N;simp at N)
       exact⟨b,o,e1,e2.2,e3 k n aj⟩
      have aO:wr.cell? ⟨bn,on+k,none⟩=some (.string n):=(HB.out.cell (p:=⟨bn,_,none⟩) aL).trans au
      have az:=AF (lf aj)
      clear aj au N
      by_cases J:x.h.kind=7
      · have k7:((x.h.kind:Int)==7)=true:=by rw[J];rfl
        have aF:((x.h.kind:Int)!=7)=false:=by rw[J];rfl
        have av:Hid (∀W,Below w.heap.size wr W->Calls Tryz.prog 41 #[.slice b1 x.h.keys.length e1,.string n] W λe w'=>e=.returned (.int .i64 (if gX n x.h.keys<x.h.keys.length then((gX n x.h.keys:Nat):Int)else -1))/\w'=W):=λW hW=>
         IX.out W x.h.keys _ n (λb=>ok b/\b<w.heap.size) ab.out.1.2.2.2.2.2.1 (HK.out.kept (λb A=>hW.block b A.2))
        have am:Hid (eU (names.drop k) x=if gX n x.h.keys<x.h.keys.length then(match x.items.get (gX n x.h.keys)with | some y=>eU (names.drop (k+1)) y | none=>.error 200)else .error 200):=by
         unfold Hid;rw[az.out,eU,if_pos J];rfl
        have bt:=AF J
        clear J
        go_upto_region 9 with(fail)
        go_wp2_with fail
        refine(av.out _ (AH _ _)).mono ?_
        rintro e w' ⟨rfl,aG⟩
        obtain rfl:wr=w':=aG.symm
        clear av aO
        by_cases hi:gX n x.h.keys<x.h.keys.length
        · rw[if_pos hi]
          have ad:Hid (eU (names.drop k) x=match x.items.get (gX n x.h.keys)with | some y=>eU (names.drop (k+1)) y | none=>.error 200):=by unfold Hid;rw[am.out,if_pos hi]
          clear am hi
          generalize gX n x.h.keys=q at*
          have bp:¬(q:Int)<0:=by omega
          have bo:(0:Int)<=(q:Int):=by omega
          by_cases hj:q<x.items.len
          · have aJ:(q:Int)<(x.items.len:Int):=by omega
            have aI:¬(x.items.len:Int)<=(q:Int):=by omega
            obtain⟨y,hy⟩:=jw hj
            have aX:Hid (eU (names.drop (k+1)) y=eU names root):=by unfold Hid;rw[<-HE.out,ad.out,hy]
            have aQ:=AF (Va.sm_get ab.out hy)
            obtain⟨ai,ci,ae,-,-,ao⟩:=ax.out
            injection ae with ae
            subst ae
            obtain⟨bi,oi,rfl,aM,ac⟩:=ao (by intro e;rw[e]at hj;simp[Vl.len]at hj)
            obtain⟨rr,ap⟩:=fF.at _ _ _ _ _ ac hy
            rw[show oi+7*q=oi+q*7 by omega]at ap
            obtain⟨⟨c0,c1,c2,c3,c4,v5,c5,ah⟩,⟨ag,cg,c6,g1,g2,g3⟩,-⟩:=ap
            obtain⟨al,ak,rfl⟩:=ah.cases
            have bq:bi≠w.heap.size+4:=by have:=aM.2;omega
            have pf:=dY aw.out
            have aT:=AF ah
            have aZ:Hid (gb (λb=>ok b/\b<w.heap.size) wr (.slice ag y.items.len cg) y.items):=⟨ag,cg,rfl,g1,g2,g3⟩
            clear ah g3 ac hj hy
            go_wp2_with fail
            have E:=AF (o7 (p:=0) (.int .u8 (y.h.kind:Nat)) (.bool y.h.b) (.int .i64 y.h.n) (.int .u64 (y.h.bits:Nat)) (.string y.h.text) (.slice al y.h.keys.length ak) (.slice ag y.items.len cg) p0 p1 p2 p3 p4 p5 p6)
            simp only[Nat.zero_add]at E
            have aA:=AF (jj aw.out (.int .u8 (y.h.kind:Nat)) (.bool y.h.b) (.int .i64 y.h.n) (.int .u64 (y.h.bits:Nat)) (.string y.h.text) (.slice al y.h.keys.length ak) (.slice ag y.items.len cg))
            generalize r:World.setCell _ _ _=R at*
            clear r
            have O:eL (λb=>ok b/\b<w.heap.size) wr R:=λb A=>E.out.oth b (by have:=A.2;omega)
            go_roundw
            case rel=>exact⟨k+1,y,al,ak,ag,cg,by go_num,by omega,aX,{res:=(E.out.oth _ (by omega)).trans G.out,at_:=aA.out,keys:=aT.out.kept O,items:=aZ.out.kept O,bel:=HB.out.trans (E.out.below (by omega)),size:=by rw[E.out.size];exact i6,sm:=aQ.out}⟩
            case measure=>simp[intOf];omega
          · have aJ:¬(q:Int)<(x.items.len:Int):=by omega
            have aI:(x.items.len:Int)<=(q:Int):=by omega
            have V:Hid (eU (names.drop k) x=.error 200):=by unfold Hid;rw[ad.out,mN (by omega)]
            have m:=AF (aa.out wr rfl (.int .u8 0) (.bool false) (.int .i64 0) (.int .u64 0) (.string ⟨#[]⟩) (.slice none 0 0) (.slice none 0 0))
            clear hj p0 p1 p2 p3 p4
            go_wp2_with fail
            generalize r:World.setCell _ _ _=R at*
            clear r
            exact⟨rfl,_,eJ rfl rfl rfl m.out.is,K.out 200 V.out R m.out⟩
        · rw[if_neg hi]
          have V:Hid (eU (names.drop k) x=.error 200):=by unfold Hid;rw[am.out,if_neg hi]
          have m:=AF (aa.out wr rfl (.int .u8 0) (.bool false) (.int .i64 0) (.int .u64 0) (.string ⟨#[]⟩) (.slice none 0 0) (.slice none 0 0))
          clear hi p0 p1 p2 p3 p4
          go_wp2_with fail
          generalize r:World.setCell _ _ _=R at*
          clear r
          exact⟨rfl,_,eJ rfl rfl rfl m.out.is,K.out 200 V.out R m.out⟩
      · have k7:((x.h.kind:Int)==7)=false:=beq_eq_false_iff_ne.2 (by omega)
        have aF:((x.h.kind:Int)!=7)=true:=by simp[bne,k7]
        have bc:¬(x.h.kind:Int)=7:=by omega
        have V:Hid (eU (names.drop k) x=.error 201):=by unfold Hid;rw[az.out,eU,if_neg J]
        have m:=AF (aa.out wr rfl (.int .u8 0) (.bool false) (.int .i64 0) (.int .u64 0) (.string ⟨#[]⟩) (.slice none 0 0) (.slice none 0 0))
        clear J p1 p2 p3 p4 p5 p6
        go_wp2_with fail
        generalize r:World.setCell _ _ _=R at*
        clear r
        exact⟨rfl,_,eJ rfl rfl rfl m.out.is,K.out 201 V.out R m.out⟩
    · have bs:¬(k:Int)<(names.length:Int):=by omega
      have aW:Hid (eU names root=.ok x):=by unfold Hid;rw[<-HE.out,List.drop_of_length_le (by omega),eU]
      have CC:Hid (Calls Tryz.prog 42 #[.agg #[.int .u8 (x.h.kind:Nat),.bool x.h.b,.int .i64 x.h.n,.int .u64 (x.h.bits:Nat),.string x.h.text,.slice b1 x.h.keys.length e1,.slice b2 x.items.len e2]] wr (CdP x wr)):=ke x _ _ wr ab.out ⟨_,_,rfl,HK.out,ax.out⟩
      clear K N
      go_wp2_with fail
      refine CC.out.mono ?_
      rintro e M ⟨v',rfl,⟨uk,ui,rfl,hu,af⟩,A⟩
      obtain⟨n5,m5,rfl⟩:=hu.cases
      obtain⟨n6,m6,rfl,-⟩:=id af
      have I:=AF ((A.block (w.heap.size+3) (by omega)).trans G.out)
      have m:=AF (aa.out M (A.block _ (by omega)) (.int .u8 (x.h.kind:Nat)) (.bool x.h.b) (.int .i64 x.h.n) (.int .u64 (x.h.bits:Nat)) (.string x.h.text) (.slice n5 x.h.keys.length m5) (.slice n6 x.items.len m6))
      have HU:=AF hu
      have aP:=AF af
      have ba:=AF A
      clear hu af A z0 z1 z2 z3 z4 z5 z6 zf p0 p1 p2 p3 p4 p5 p6
      have z0:M.cell? ⟨w.heap.size+3,0,none⟩=some (.int .u8 0):=by rw[dW I.out];rfl
      have z1:M.cell? ⟨w.heap.size+3,1,none⟩=some (.bool false):=by rw[dW I.out];rfl
      have z2:M.cell? ⟨w.heap.size+3,2,none⟩=some (.int .i64 0):=by rw[dW I.out];rfl
      have z3:M.cell? ⟨w.heap.size+3,3,none⟩=some (.int .u64 0):=by rw[dW I.out];rfl
      have z4:M.cell? ⟨w.heap.size+3,4,none⟩=some (.string ⟨#[]⟩):=by rw[dW I.out];rfl
      have z5:M.cell? ⟨w.heap.size+3,5,none⟩=some (.slice none 0 0):=by rw[dW I.out];rfl
      have z6:M.cell? ⟨w.heap.size+3,6,none⟩=some (.slice none 0 0):=by rw[dW I.out];rfl
      have zf:=dY I.out
      go_wp2_with fail
      generalize r:World.setCell _ _ _=R at*
      clear r
      have aq:∀b,Nu wr.heap.size M b->Nu w.heap.size R b:=λb A=>⟨by have:=A.1;omega,by rw[m.out.size];exact A.2.1,m.out.unf b A.2.2⟩
      have O:eL (Nu wr.heap.size M) M R:=λb A=>m.out.oth b (by have:=A.1;omega)
      refine⟨rfl,_,eJ rfl rfl rfl m.out.is,?_⟩
      have ar:xY (eU names root) w (.returned (.tuple #[.agg #[.int .u8 (x.h.kind:Nat),.bool x.h.b,.int .i64 x.h.n,.int .u64 (x.h.bits:Nat),.string x.h.text,.slice n5 x.h.keys.length m5,.slice n6 x.items.len m6],.int .i64 0])) R:=by
       rw[aW.out]
       exact⟨(HB.out.trans (ba.out.mono (by omega))).trans (m.out.below (by omega)),_,rfl,⟨_,_,rfl,(HU.out.kept O).mono aq,(aP.out.kept O).mono aq⟩,ab.out⟩
      exact ar
 | false=>
   go_upto_region 4 with(fail)
   have HG:=AF (ay.out dot _ _ _ _ a7.out a8.out aS.out)
   clear bd
   clear ay a7 a8 aU aV aS aR d0 d1 d2 d3 d4 d5 d6 r0 r1 r2 r3 r4 r5 r6 q0 bm bk aY
   have q1:(W0.alloc (.cells #[.int .u8 (dot.h.kind:Nat),.bool dot.h.b,.int .i64 dot.h.n,.int .u64 (dot.h.bits:Nat),.string dot.h.text,.slice a1 dot.h.keys.length c1,.slice a2 dot.items.len c2] 31)).cell? ⟨w.heap.size+2,1,none⟩=some (.slice an names.length cn):=by
    rw[dW ((Below.heap_alloc _ _ _ (by omega)).trans aD.out)];rfl
   generalize r:World.alloc W0 _=W1 at*
   clear r aE aC aB aD
   go_wp2_with fail
   clear q1
   go_loopw [19] (λi wr=>∃(k:Nat) (x:Va) (b1:Option Addr) (e1:Nat) (b2:Option Addr) (e2:Nat),i=.int .i64 (k:Nat)/\k<=names.length/\Hid (eU (names.drop k) x=eU names dot)/\Hid (Ac w.heap.size w wr ok x (.slice b1 x.h.keys.length e1) (.slice b2 x.items.len e2))) (λi _=>names.length - (intOf i).toNat)
   case atStart=>exact⟨0,dot,a1,c1,a2,c2,rfl,Nat.zero_le _,by rw[List.drop_zero];rfl,HG⟩
   case round=>
    obtain⟨k,x,b1,e1,b2,e2,rfl,hk,HE,HI⟩:=hrel
    clear HG
    obtain⟨i1,i2,i3,i4,i5,i6,i7⟩:=HI.out
    have br:(0:Int)<=(k:Int):=by omega
    obtain⟨p0,p1,p2,p3,p4,p5,p6⟩:=fR i2
    have G:=AF i1
    have aw:=AF i2
    have HK:=AF i3
    have ax:=AF i4
    have HB:=AF i5
    have ab:=AF i7
    clear i1 i2 i3 i4 i5 i7 HI
    have z0:wr.cell? ⟨w.heap.size+3,0,none⟩=some (.int .u8 0):=by rw[dW G.out];rfl
    have z1:wr.cell? ⟨w.heap.size+3,1,none⟩=some (.bool false):=by rw[dW G.out];rfl
    have z2:wr.cell? ⟨w.heap.size+3,2,none⟩=some (.int .i64 0):=by rw[dW G.out];rfl
    have z3:wr.cell? ⟨w.heap.size+3,3,none⟩=some (.int .u64 0):=by rw[dW G.out];rfl
    have z4:wr.cell? ⟨w.heap.size+3,4,none⟩=some (.string ⟨#[]⟩):=by rw[dW G.out];rfl
    have z5:wr.cell? ⟨w.heap.size+3,5,none⟩=some (.slice none 0 0):=by rw[dW G.out];rfl
    have z6:wr.cell? ⟨w.heap.size+3,6,none⟩=some (.slice none 0 0):=by rw[dW G.out];rfl
    have zf:=dY G.out
    have aa:Hid (∀W,W.heap[w.heap.size+3]? =wr.heap[w.heap.size+3]?→∀a0 a1 a2 a3 a4 a5 a6,fP W (((((((W.setCell ⟨w.heap.size+3,0,none⟩ a0).setCell ⟨w.heap.size+3,1,none⟩ a1).setCell ⟨w.heap.size+3,2,none⟩ a2).setCell ⟨w.heap.size+3,3,none⟩ a3).setCell ⟨w.heap.size+3,4,none⟩ a4).setCell ⟨w.heap.size+3,5,none⟩ a5).setCell ⟨w.heap.size+3,6,none⟩ a6) (w.heap.size+3) 0 7 [a0,a1,a2,a3,a4,a5,a6]):=λW hW a0 a1 a2 a3 a4 a5 a6=>by
     have A:∀j,W.cell? ⟨w.heap.size+3,j,none⟩=wr.cell? ⟨w.heap.size+3,j,none⟩:=λj=>World.cell?_of_block (w:=wr) hW
     exact o7 (p:=0) a0 a1 a2 a3 a4 a5 a6 ((A 0).trans z0) ((A 1).trans z1) ((A 2).trans z2) ((A 3).trans z3) ((A 4).trans z4) ((A 5).trans z5) ((A 6).trans z6)
    have K:Hid (∀n:Nat,eU (names.drop k) x=.error n->∀W',fP wr W' (w.heap.size+3) 0 7 [.int .u8 0,.bool false,.int .i64 0,.int .u64 0,.string ⟨#[]⟩,.slice none 0 0,.slice none 0 0]->xY (eU names dot) w (.returned (.tuple #[.agg #[.int .u8 0,.bool false,.int .i64 0,.int .u64 0,.string ⟨#[]⟩,.slice none 0 0,.slice none 0 0],.int .i64 (n:Nat)])) W'):=λn hn W' hW=>by
     rw[<-HE.out,hn]
     exact⟨HB.out.trans (hW.below (by omega)),rfl⟩
    by_cases N:k<names.length
    · have bg:(k:Int)<(names.length:Int):=by omega
      obtain⟨n,aj⟩:∃n,names[k]? =some n:=⟨_,List.getElem?_eq_getElem N⟩
      obtain⟨bn,on,rfl,aL,au⟩:∃bn on,an=some ⟨bn,on,none⟩/\bn<w.heap.size/\w.cell? ⟨bn,on+k,none⟩=some (.string n):=by
       obtain⟨a',c',hv,-,-,h3⟩:=bj.out
       injection hv with hv
       subst hv
       obtain⟨b,o,e1,e2,e3⟩:=h3 (by intro e;rw[e]at N;simp at N)
       exact⟨b,o,e1,e2.2,e3 k n aj⟩
      have aO:wr.cell? ⟨bn,on+k,none⟩=some (.string n):=(HB.out.cell (p:=⟨bn,_,none⟩) aL).trans au
      have az:=AF (lf aj)
      clear aj au N
      by_cases J:x.h.kind=7
      · have k7:((x.h.kind:Int)==7)=true:=by rw[J];rfl
        have aF:((x.h.kind:Int)!=7)=false:=by rw[J];rfl
        have av:Hid (∀W,Below w.heap.size wr W->Calls Tryz.prog 41 #[.slice b1 x.h.keys.length e1,.string n] W λe w'=>e=.returned (.int .i64 (if gX n x.h.keys<x.h.keys.length then((gX n x.h.keys:Nat):Int)else -1))/\w'=W):=λW hW=>
         IX.out W x.h.keys _ n (λb=>ok b/\b<w.heap.size) ab.out.1.2.2.2.2.2.1 (HK.out.kept (λb A=>hW.block b A.2))
        have am:Hid (eU (names.drop k) x=if gX n x.h.keys<x.h.keys.length then(match x.items.get (gX n x.h.keys)with | some y=>eU (names.drop (k+1)) y | none=>.error 200)else .error 200):=by
         unfold Hid;rw[az.out,eU,if_pos J];rfl
        have bt:=AF J
        clear J
        go_upto_region 9 with(fail)
        go_wp2_with fail
        refine(av.out _ (AH _ _)).mono ?_
        rintro e w' ⟨rfl,aG⟩
        obtain rfl:wr=w':=aG.symm
        clear av aO
        by_cases hi:gX n x.h.keys<x.h.keys.length
        · rw[if_pos hi]
          have ad:Hid (eU (names.drop k) x=match x.items.get (gX n x.h.keys)with | some y=>eU (names.drop (k+1)) y | none=>.error 200):=by unfold Hid;rw[am.out,if_pos hi]
          clear am hi
          generalize gX n x.h.keys=q at*
          have bp:¬(q:Int)<0:=by omega
          have bo:(0:Int)<=(q:Int):=by omega
          by_cases hj:q<x.items.len
          · have aJ:(q:Int)<(x.items.len:Int):=by omega
            have aI:¬(x.items.len:Int)<=(q:Int):=by omega
            obtain⟨y,hy⟩:=jw hj
            have aX:Hid (eU (names.drop (k+1)) y=eU names dot):=by unfold Hid;rw[<-HE.out,ad.out,hy]
            have aQ:=AF (Va.sm_get ab.out hy)
            obtain⟨ai,ci,ae,-,-,ao⟩:=ax.out
            injection ae with ae
            subst ae
            obtain⟨bi,oi,rfl,aM,ac⟩:=ao (by intro e;rw[e]at hj;simp[Vl.len]at hj)
            obtain⟨rr,ap⟩:=fF.at _ _ _ _ _ ac hy
            rw[show oi+7*q=oi+q*7 by omega]at ap
            obtain⟨⟨c0,c1,c2,c3,c4,v5,c5,ah⟩,⟨ag,cg,c6,g1,g2,g3⟩,-⟩:=ap
            obtain⟨al,ak,rfl⟩:=ah.cases
            have bq:bi≠w.heap.size+4:=by have:=aM.2;omega
            have pf:=dY aw.out
            have aT:=AF ah
            have aZ:Hid (gb (λb=>ok b/\b<w.heap.size) wr (.slice ag y.items.len cg) y.items):=⟨ag,cg,rfl,g1,g2,g3⟩
            clear ah g3 ac hj hy
            go_wp2_with fail
            have E:=AF (o7 (p:=0) (.int .u8 (y.h.kind:Nat)) (.bool y.h.b) (.int .i64 y.h.n) (.int .u64 (y.h.bits:Nat)) (.string y.h.text) (.slice al y.h.keys.length ak) (.slice ag y.items.len cg) p0 p1 p2 p3 p4 p5 p6)
            simp only[Nat.zero_add]at E
            have aA:=AF (jj aw.out (.int .u8 (y.h.kind:Nat)) (.bool y.h.b) (.int .i64 y.h.n) (.int .u64 (y.h.bits:Nat)) (.string y.h.text) (.slice al y.h.keys.length ak) (.slice ag y.items.len cg))
            generalize r:World.setCell _ _ _=R at*
            clear r
            have O:eL (λb=>ok b/\b<w.heap.size) wr R:=λb A=>E.out.oth b (by have:=A.2;omega)
            go_roundw
            case rel=>exact⟨k+1,y,al,ak,ag,cg,by go_num,by omega,aX,{res:=(E.out.oth _ (by omega)).trans G.out,at_:=aA.out,keys:=aT.out.kept O,items:=aZ.out.kept O,bel:=HB.out.trans (E.out.below (by omega)),size:=by rw[E.out.size];exact i6,sm:=aQ.out}⟩
            case measure=>simp[intOf];omega
          · have aJ:¬(q:Int)<(x.items.len:Int):=by omega
            have aI:(x.items.len:Int)<=(q:Int):=by omega
            have V:Hid (eU (names.drop k) x=.error 200):=by unfold Hid;rw[ad.out,mN (by omega)]
            have m:=AF (aa.out wr rfl (.int .u8 0) (.bool false) (.int .i64 0) (.int .u64 0) (.string ⟨#[]⟩) (.slice none 0 0) (.slice none 0 0))
            clear hj p0 p1 p2 p3 p4
            go_wp2_with fail
            generalize r:World.setCell _ _ _=R at*
            clear r
            exact⟨rfl,_,eJ rfl rfl rfl m.out.is,K.out 200 V.out R m.out⟩
        · rw[if_neg hi]
          have V:Hid (eU (names.drop k) x=.error 200):=by unfold Hid;rw[am.out,if_neg hi]
          have m:=AF (aa.out wr rfl (.int .u8 0) (.bool false) (.int .i64 0) (.int .u64 0) (.string ⟨#[]⟩) (.slice none 0 0) (.slice none 0 0))
          clear hi p0 p1 p2 p3 p4
          go_wp2_with fail
          generalize r:World.setCell _ _ _=R at*
          clear r
          exact⟨rfl,_,eJ rfl rfl rfl m.out.is,K.out 200 V.out R m.out⟩
      · have k7:((x.h.kind:Int)==7)=false:=beq_eq_false_iff_ne.2 (by omega)
        have aF:((x.h.kind:Int)!=7)=true:=by simp[bne,k7]
        have bc:¬(x.h.kind:Int)=7:=by omega
        have V:Hid (eU (names.drop k) x=.error 201):=by unfold Hid;rw[az.out,eU,if_neg J]
        have m:=AF (aa.out wr rfl (.int .u8 0) (.bool false) (.int .i64 0) (.int .u64 0) (.string ⟨#[]⟩) (.slice none 0 0) (.slice none 0 0))
        clear J p1 p2 p3 p4 p5 p6
        go_wp2_with fail
        generalize r:World.setCell _ _ _=R at*
        clear r
        exact⟨rfl,_,eJ rfl rfl rfl m.out.is,K.out 201 V.out R m.out⟩
    · have bs:¬(k:Int)<(names.length:Int):=by omega
      have aW:Hid (eU names dot=.ok x):=by unfold Hid;rw[<-HE.out,List.drop_of_length_le (by omega),eU]
      have CC:Hid (Calls Tryz.prog 42 #[.agg #[.int .u8 (x.h.kind:Nat),.bool x.h.b,.int .i64 x.h.n,.int .u64 (x.h.bits:Nat),.string x.h.text,.slice b1 x.h.keys.length e1,.slice b2 x.items.len e2]] wr (CdP x wr)):=ke x _ _ wr ab.out ⟨_,_,rfl,HK.out,ax.out⟩
      clear K N
      go_wp2_with fail
      refine CC.out.mono ?_
      rintro e M ⟨v',rfl,⟨uk,ui,rfl,hu,af⟩,A⟩
      obtain⟨n5,m5,rfl⟩:=hu.cases
      obtain⟨n6,m6,rfl,-⟩:=id af
      have I:=AF ((A.block (w.heap.size+3) (by omega)).trans G.out)
      have m:=AF (aa.out M (A.block _ (by omega)) (.int .u8 (x.h.kind:Nat)) (.bool x.h.b) (.int .i64 x.h.n) (.int .u64 (x.h.bits:Nat)) (.string x.h.text) (.slice n5 x.h.keys.length m5) (.slice n6 x.items.len m6))
      have HU:=AF hu
      have aP:=AF af
      have ba:=AF A
      clear hu af A z0 z1 z2 z3 z4 z5 z6 zf p0 p1 p2 p3 p4 p5 p6
      have z0:M.cell? ⟨w.heap.size+3,0,none⟩=some (.int .u8 0):=by rw[dW I.out];rfl
      have z1:M.cell? ⟨w.heap.size+3,1,none⟩=some (.bool false):=by rw[dW I.out];rfl
      have z2:M.cell? ⟨w.heap.size+3,2,none⟩=some (.int .i64 0):=by rw[dW I.out];rfl
      have z3:M.cell? ⟨w.heap.size+3,3,none⟩=some (.int .u64 0):=by rw[dW I.out];rfl
      have z4:M.cell? ⟨w.heap.size+3,4,none⟩=some (.string ⟨#[]⟩):=by rw[dW I.out];rfl
      have z5:M.cell? ⟨w.heap.size+3,5,none⟩=some (.slice none 0 0):=by rw[dW I.out];rfl
      have z6:M.cell? ⟨w.heap.size+3,6,none⟩=some (.slice none 0 0):=by rw[dW I.out];rfl
      have zf:=dY I.out
      go_wp2_with fail
      generalize r:World.setCell _ _ _=R at*
      clear r
      have aq:∀b,Nu wr.heap.size M b->Nu w.heap.size R b:=λb A=>⟨by have:=A.1;omega,by rw[m.out.size];exact A.2.1,m.out.unf b A.2.2⟩
      have O:eL (Nu wr.heap.size M) M R:=λb A=>m.out.oth b (by have:=A.1;omega)
      refine⟨rfl,_,eJ rfl rfl rfl m.out.is,?_⟩
      have ar:xY (eU names dot) w (.returned (.tuple #[.agg #[.int .u8 (x.h.kind:Nat),.bool x.h.b,.int .i64 x.h.n,.int .u64 (x.h.bits:Nat),.string x.h.text,.slice n5 x.h.keys.length m5,.slice n6 x.items.len m6],.int .i64 0])) R:=by
       rw[aW.out]
       exact⟨(HB.out.trans (ba.out.mono (by omega))).trans (m.out.below (by omega)),_,rfl,⟨_,_,rfl,(HU.out.kept O).mono aq,(aP.out.kept O).mono aq⟩,ab.out⟩
      exact ar
end Go.Proofs.YtepcpgdfbaklfaaGreatDoor
