/- Contracts of lacunaref00.SameTexts and SamePath where both are the same. The condition: at most 2 to the 47th bytes. -/
import Derived.Test.YtepcpgdfbaklfaaGreatDoorQcLibv
import Derived.Test.YtepcpgdfbaklfaaGreatDoorQcTp0
import Derived.Test.YtepcpgdfbaklfaaGreatDoorQcTso
import Derived.StillTailTactics
set_option maxRecDepth 100000
set_option maxHeartbeats 40000000
set_option linter.unusedSimpArgs false
set_option linter.unusedVariables false
namespace Go.Proofs.YtepcpgdfbaklfaaGreatDoor
open Go.RowKit Go.Shelf
attribute [local go_sem ↓] Go.wp_at_zero Go.wp_at_succ
theorem ei {B:Nat}{w w':World}(h:Below B w w')(n:Nat):Below B w (w'.drewN n):=⟨h.os,h.tape,h.output,h.size,h.block⟩
theorem Strs.lt {ok:Nat->Prop}{w:World}{v:Value}{l:List ByteArray}(h:Strs ok w v l):Strs (λb=>ok b/\b<w.heap.size) w v l:=by
 obtain⟨a,c,A,M,K,J⟩:=h
 refine⟨a,c,A,M,K,λm=> ?_⟩
 obtain⟨b,o,I,G,r⟩:=J m
 obtain⟨s,E⟩:∃s,l[0]? =some s:=by cases l with
  | nil=>exact absurd rfl m
  | cons x l=>exact⟨x,rfl⟩
 exact⟨b,o,I,⟨G,ej (r 0 s E)⟩,r⟩
theorem ib (ok ok':Nat->Prop)(l:List ByteArray)(hl:l.length<=140737488351232)(v O:Value)(w:World)(h:Strs ok w v l)(Y:Strs ok' w O l):
 Calls Tryz.prog 33 #[v,O] w λe w'=>e=.returned (.bool true)/\Below w.heap.size w w':=by
 obtain⟨a,c,rfl,h1,h2,W⟩:=h.lt
 obtain⟨a',c',rfl,M,K,G⟩:=Y.lt
 have H3:=AF W
 have N:=AF G
 clear W G h Y h2 K h1 M
 go_enter Tryz.func33,Tryz.ntmps33
 go_wp2_with fail
 go_loopw [5] (λi wr=>∃k:Nat,i=.int .i64 k/\k<=l.length/\Hid (Below w.heap.size w wr)) (λi _=>l.length - (intOf i).toNat)
 case atStart=>exact⟨0,rfl,Nat.zero_le _,AH _ _⟩
 case round=>
  obtain⟨k,rfl,hk,I⟩:=hrel
  by_cases m:k<l.length
  · have U:(k:Int)<(l.length:Int):=by omega
    have A:l≠[]:=by intro e;rw[e]at m;simp at m
    obtain⟨s,r⟩:∃s,l[k]? =some s:=⟨_,List.getElem?_eq_getElem m⟩
    obtain⟨b,o,rfl,⟨-,hb⟩,V⟩:=H3.out A
    obtain⟨Z,R,rfl,⟨-,J⟩,E⟩:=N.out A
    have c1:wr.cell? ⟨b,o+k,none⟩=some (.string s):=(I.out.cell (p:=⟨b,o+k,none⟩) hb).trans (V k s r)
    have c2:wr.cell? ⟨Z,R+k,none⟩=some (.string s):=(I.out.cell (p:=⟨Z,R+k,none⟩) J).trans (E k s r)
    have aa:(0:Int)<=(k:Int):=by omega
    clear V E r m A
    go_wp2_with fail
    go_quiet (fail)
    go_wp2_with fail
    go_roundw
    case rel=>exact⟨k+1,by go_num,by omega,ei I.out _⟩
    case measure=>simp[intOf];omega
  · have ab:¬(k:Int)<(l.length:Int):=by omega
    go_wp2_with fail
    go_ret
    exact⟨rfl,I.out⟩
theorem lG (ok ok':Nat->Prop)(root:Bool)(l:List ByteArray)(M:l.length<=140737488351232)(v o:Value)(w:World)(h:Strs ok w v l)(I:Strs ok' w o l):
 Calls Tryz.prog 53 #[.agg #[.bool root,v],.agg #[.bool root,o]] w λe w'=>e=.returned (.bool true)/\Below w.heap.size w w':=by
 have m:Hid (Below w.heap.size w ((w.alloc (.cells #[.bool root,v] 54)).alloc (.cells #[.bool root,o] 54))):=((AH _ _).alloc (AG _) _).alloc (by simp) _
 have K:=AF h.lt
 have J:=AF I.lt
 have N:Hid (∀W,Below w.heap.size w W->Calls Tryz.prog 33 #[v,o] W λe w'=>e=.returned (.bool true)/\Below W.heap.size W w'):=λW G=>
  ib (λb=>ok b/\b<w.heap.size) (λb=>ok' b/\b<w.heap.size) l M v o W (K.out.kept (λb A=>G.block b A.2)) (J.out.kept (λb A=>G.block b A.2))
 obtain⟨a,c,rfl,-⟩:=h
 obtain⟨R,O,rfl,-⟩:=I
 clear K J
 go_enter Tryz.func53,Tryz.ntmps53
 go_wp2_with (go_at_call 33;refine(N.out _ m.out).mono ?_;rintro e w1 ⟨rfl,r⟩;have E:=AF (m.out.trans (r.mono m.out.size));clear r)
 go_ret
 exact⟨rfl,E.out⟩
theorem qv (t:Tm)(h:t.check=0):t.main.form true=true/\(∀d∈t.defs,eK (bl d.name)=true/\d.kids.form false=true)/\t.main.deep<=64/\(∀d∈t.defs,1+d.kids.deep<=64)/\
 twice (t.defs.map λd=>bl d.name)=false/\t.main.called t.defs=true/\(∀d∈t.defs,d.kids.called t.defs=true)/\t.main.cnt+(t.defs.map λd=>d.kids.cnt).sum<=1024/\t.src.length<=16384:=by
 unfold Tm.check at h
 split at h;· cases h
 rename_i r
 split at h;· cases h
 rename_i J
 split at h;· cases h
 rename_i G
 split at h;· cases h
 rename_i o
 split at h;· cases h
 rename_i I
 simp only[Bool.not_eq_false,Bool.and_eq_true,List.all_eq_true]at r o
 have m:∀(l:List Nat) (x:Nat),x∈l->x<=l.foldr max 0:=by
  intro l
  induction l with
  | nil=>intro x hx;cases hx
  | cons y l A=>
    intro x hx
    rcases List.mem_cons.1 hx with rfl | hx
    · exact Nat.le_max_left _ _
    · exact Nat.le_trans (A x hx) (Nat.le_max_right _ _)
 refine⟨r.1,r.2,?_,?_,by simpa using G,o.1,o.2,by omega,by omega⟩
 · have:=Nat.le_max_left t.main.deep ((t.defs.map λd=>1+d.kids.deep).foldr max 0);omega
 · intro d E
   have:=m _ _ (List.mem_map_of_mem (f:=λd:Df=>1+d.kids.deep) E)
   have:=Nat.le_max_right t.main.deep ((t.defs.map λd=>1+d.kids.deep).foldr max 0)
   omega
def Df.era (d:Df):Df:=⟨d.name,0,d.kids.era⟩
def Tm.era (t:Tm):Tm:=⟨t.main.era,t.defs.map Df.era⟩
theorem rm (l:List Df)(n:By):eE l n=(l.map λd=>bl d.name).contains n:=by
 unfold eE
 rw[Bool.eq_iff_iff,List.any_eq_true]
 simp[List.mem_map]
theorem Row.lt {ok:Nat->Prop}{w:World}:∀(t:Pt) (b o:Nat),Row ok w t b o->Row (λb=>ok b/\b<w.heap.size) w t b o:=by
 intro t
 induction t with
 | nil=>intro b o _;exact trivial
 | cons h k e r K M J=>
   rintro b o ⟨⟨c0,c1,c2,c3,⟨v,c4,Y⟩,c5⟩,⟨ak,ck,c6,W,V,U⟩,⟨ae,ce,c7,e1,e2,e3⟩,E⟩
   have R:∀(q:Pt) (m A:Nat),q≠.nil->Row ok w q m A->m<w.heap.size:=by
    intro q m A hq Z
    cases q with
    | nil=>exact absurd rfl hq
    | cons _ _ _ _=>exact ej Z.1.1
   refine⟨⟨c0,c1,c2,c3,⟨v,c4,Y.lt⟩,c5⟩,⟨ak,ck,c6,W,V,λG=> ?_⟩,⟨ae,ce,c7,e1,e2,λG=> ?_⟩,J b _ E⟩
   · obtain⟨m,A,O,N,I⟩:=U G
     exact⟨m,A,O,⟨N,R _ _ _ G I⟩,K m A I⟩
   · obtain⟨m,A,O,N,I⟩:=e3 G
     exact⟨m,A,O,⟨N,R _ _ _ G I⟩,M m A I⟩
theorem d8.lt {ok:Nat->Prop}{w:World}{v:Value}{t:Pt}(h:d8 ok w v t):d8 (λb=>ok b/\b<w.heap.size) w v t:=by
 obtain⟨a,c,A,K,J,I⟩:=h
 refine⟨a,c,A,K,J,λm=> ?_⟩
 obtain⟨b,o,G,E,r⟩:=I m
 refine⟨b,o,G,⟨E,?_⟩,r.lt⟩
 cases t with
 | nil=>exact absurd rfl m
 | cons _ _ _ _=>exact ej r.1.1
theorem d8.below {w w':World}{ok:Nat->Prop}{v:Value}{t:Pt}{B:Nat}(h:d8 (λb=>ok b/\b<B) w v t)(o:Below B w w'):d8 (λb=>ok b/\b<B) w' v t:=h.kept (λb m=>o.block b m.2)
theorem xx {x y:Pt}(h:x.era=y.era):x.len=y.len:=by
 have e:∀t:Pt,t.era.len=t.len:=by
  intro t
  induction t with
  | nil=>rfl
  | cons h k e r _ _ m=>simp[Pt.era,Pt.len,m]
 rw[<-e x,h,e y]
structure Aa (P:Nat)(h:Hd)(vn vk ve:Value)(w:World):Prop where
 p0:w.cell? ⟨P,0,none⟩=some (.int .u8 (h.kind:Nat))
 p1:w.cell? ⟨P,1,none⟩=some (.int .i64 h.pos)
 p2:w.cell? ⟨P,2,none⟩=some (.string h.text)
 p3:w.cell? ⟨P,3,none⟩=some (.bool h.root)
 p4:w.cell? ⟨P,4,none⟩=some vn
 p5:w.cell? ⟨P,5,none⟩=some (.string h.name)
 p6:w.cell? ⟨P,6,none⟩=some vk
 p7:w.cell? ⟨P,7,none⟩=some ve
theorem ja {P:Nat}{h:Hd}{o r A:Value}{w:World}(m:w.heap[P]? =some (.cells (eo h o r A) 56 (0,0))):Aa P h o r A w:=
 ⟨by rw[dW m];rfl,by rw[dW m];rfl,by rw[dW m];rfl,by rw[dW m];rfl,by rw[dW m];rfl,by rw[dW m];rfl,by rw[dW m];rfl,by rw[dW m];rfl⟩
def tS (n:Nat):Prop:=∀(x y:Pt),x.cnt<n->x.era=y.era->∀(o:Bool),(o=true->x=y)->∀(ok ok':Nat->Prop) (v m:Value) (w:World),x.sm->x.cnt<=16777216->d8 ok w v x->d8 ok' w m y->
 Calls Tryz.prog 32 #[v,m,.bool o] w λe w'=>e=.returned (.bool true)/\Below w.heap.size w w'
def jX (ok:Nat->Prop)(a:Option Addr)(w:World)(r:Pt)(k:Nat):Prop:=r≠.nil->∃b o,a=some ⟨b,o,none⟩/\(ok b/\b<w.heap.size)/\Row (λb=>ok b/\b<w.heap.size) w r b (o+k*8)
theorem wK (n:Nat)(ih:tS n):tS (n+1):=by
 intro x y hn he pl au ok ok' v v' w ar be hx hy
 have R:=xx he
 obtain⟨a,c,rfl,h1,h2,h3⟩:=hx.lt
 obtain⟨a',c',rfl,aS,aR,az⟩:=hy.lt
 have HX:Hid (jX ok a w x 0):=λal=>by
  obtain⟨b,o,q1,q2,q3⟩:=h3 al
  exact⟨b,o,q1,q2,by rw[Nat.zero_mul,Nat.add_zero];exact q3⟩
 have HY:Hid (jX ok' a' w y 0):=λal=>by
  obtain⟨b,o,q1,q2,q3⟩:=az al
  exact⟨b,o,q1,q2,by rw[Nat.zero_mul,Nat.add_zero];exact q3⟩
 have bj:=eD x
 have bc:=AF au
 have bd:=AF he
 have ba:=AF ar
 have IH:=AF ih
 have bg:=AF R
 have aO:(y.len:Int)=(x.len:Int):=by rw[R]
 rw[<-R]
 clear h3 az hx hy h1 h2 aS aR au he ar ih R aO
 go_enter Tryz.func32,Tryz.ntmps32
 go_wp2_with fail
 go_loopw [7] (λi wr=>∃(k:Nat) (r s:Pt),i=.int .i64 k/\k+r.len=x.len/\Hid (Below w.heap.size w wr)/\Hid (jX ok a w r k)/\Hid (jX ok' a' w s k)/\Hid (r.era=s.era)/\Hid (pl=true->r=s)/\r.cnt<=x.cnt/\Hid r.sm) (λi _=>x.len - (intOf i).toNat)
 case atStart=>exact⟨0,x,y,rfl,by omega,AH _ _,HX,HY,bd,bc,AG _,ba⟩
 case round=>
  obtain⟨k,r,s,rfl,hk,HB,aF,aE,HE,HP,aP,HS⟩:=hrel
  cases r with
  | nil=>
    simp only[Pt.len]at hk
    have bo:¬(k:Int)<(x.len:Int):=by omega
    go_wp2_with fail
    go_ret
    exact⟨rfl,HB.out⟩
  | cons h kd el r=>
    cases s with
    | nil=>have:=HE.out;simp[Pt.era]at this
    | cons h' A E s=>
      obtain⟨b,o,rfl,J,Z⟩:=aF.out (by simp)
      obtain⟨b',o',rfl,am,I⟩:=aE.out (by simp)
      simp only[Pt.len]at hk
      simp only[Pt.cnt]at aP
      have bk:(k:Int)<(x.len:Int):=by omega
      have bn:(0:Int)<=(k:Int):=by omega
      obtain⟨aq,ai,aj,ah⟩:=HS.out
      obtain⟨s0,-,-,s3,-⟩:=aq
      have av:=HE.out
      simp only[Pt.era,Pt.cons.injEq]at av
      obtain⟨eh,ek,ee,er⟩:=av
      obtain⟨m,rfl⟩:∃p,h'={h with pos:=p}:=⟨h'.pos,by
       unfold Hd.era at eh
       injection eh with q1 q2 q3 q4 q5 q6
       cases h';cases h;simp_all⟩
      have af:Hid (pl=true->kd=A/\el=E/\r=s/\h.pos=m):=λe=>by
       have:=HP.out e
       injection this with q1 q2 q3 q4
       exact⟨q2,q3,q4,by rw[q1]⟩
      have aI:Hid (kd.era=A.era/\el.era=E.era/\r.era=s.era):=⟨ek,ee,er⟩
      have aG:Hid (jX ok (some ⟨b,o,none⟩) w r (k+1)):=λ_=>⟨b,o,rfl,J,by have:=Z.2.2.2;rwa[show o+k*8+8=o+(k+1)*8 by omega]at this⟩
      have aC:Hid (jX ok' (some ⟨b',o',none⟩) w s (k+1)):=λ_=>⟨b',o',rfl,am,by have:=I.2.2.2;rwa[show o'+k*8+8=o'+(k+1)*8 by omega]at this⟩
      obtain⟨⟨g0,g1,g2,g3,⟨vn,g4,ag⟩,g5⟩,⟨ak,ck,g6,k1,k2,k3⟩,⟨ae,ce,g7,e1,e2,e3⟩,-⟩:=Row.kept (λb hk=>HB.out.block b hk.2) _ _ _ J Z
      obtain⟨⟨a6,aZ,aY,aX,⟨ao,aW,Y⟩,aV⟩,⟨N,K,aU,aL,aK,ap⟩,⟨O,M,aT,a8,a7,aA⟩,-⟩:=Row.kept (λb hk=>HB.out.block b hk.2) _ _ _ am I
      have aM:=HB.out.size
      have PC:Hid (∀W,Below wr.heap.size wr W->Calls Tryz.prog 53 #[.agg #[.bool h.root,vn],.agg #[.bool h.root,ao]] W λe w'=>e=.returned (.bool true)/\Below W.heap.size W w'):=λW hW=>
       lG (λb=>ok b/\b<w.heap.size) (λb=>ok' b/\b<w.heap.size) h.root h.names (by omega) vn ao W (ag.kept (λb J=>hW.block b (by have:=J.2;omega))) (Y.kept (λb J=>hW.block b (by have:=J.2;omega)))
      have KC:Hid (∀W,Below wr.heap.size wr W->Calls Tryz.prog 32 #[.slice ak kd.len ck,.slice N A.len K,.bool pl] W λe w'=>e=.returned (.bool true)/\Below W.heap.size W w'):=λW hW=>
       IH.out kd A (by omega) ek pl (λe=>(af.out e).1) (λb=>ok b/\b<w.heap.size) (λb=>ok' b/\b<w.heap.size) _ _ W ai (by omega) (d8.kept ⟨ak,ck,rfl,k1,k2,k3⟩ (λb J=>hW.block b (by have:=J.2;omega))) (d8.kept ⟨N,K,rfl,aL,aK,ap⟩ (λb J=>hW.block b (by have:=J.2;omega)))
      have EC:Hid (∀W,Below wr.heap.size wr W->Calls Tryz.prog 32 #[.slice ae el.len ce,.slice O E.len M,.bool pl] W λe w'=>e=.returned (.bool true)/\Below W.heap.size W w'):=λW hW=>
       IH.out el E (by omega) ee pl (λe=>(af.out e).2.1) (λb=>ok b/\b<w.heap.size) (λb=>ok' b/\b<w.heap.size) _ _ W aj (by omega) (d8.kept ⟨ae,ce,rfl,e1,e2,e3⟩ (λb J=>hW.block b (by have:=J.2;omega))) (d8.kept ⟨O,M,rfl,a8,a7,aA⟩ (λb J=>hW.block b (by have:=J.2;omega)))
      obtain⟨an,cn,rfl,n1,n2,-⟩:=ag
      obtain⟨ab,aa,rfl,bi,bh,-⟩:=Y
      have aH:=AF hk
      have aD:=AF ah
      have bm:k+1+r.len<=x.len:=by omega
      clear k3 e3 ap aA Z I ai aj ah ek ee er eh hk aF aE HS HE
      have U:Hid (Below wr.heap.size wr ((wr.alloc (.cells (eo h (.slice an h.names.length cn) (.slice ak kd.len ck) (.slice ae el.len ce)) 56 (0,0))).alloc (.cells (eo {h with pos:=m} (.slice ab h.names.length aa) (.slice N A.len K) (.slice O E.len M)) 56 (0,0)))):=
       ((AH wr.heap.size wr).alloc (AG _) _).alloc (by simp) _
      have V:Hid (∀W,Below (wr.heap.size+2) ((wr.alloc (.cells (eo h (.slice an h.names.length cn) (.slice ak kd.len ck) (.slice ae el.len ce)) 56 (0,0))).alloc (.cells (eo {h with pos:=m} (.slice ab h.names.length aa) (.slice N A.len K) (.slice O E.len M)) 56 (0,0))) W->
       Aa wr.heap.size h (.slice an h.names.length cn) (.slice ak kd.len ck) (.slice ae el.len ce) W/\Aa (wr.heap.size+1) {h with pos:=m} (.slice ab h.names.length aa) (.slice N A.len K) (.slice O E.len M) W):=λW hW=>by
       have q:=eC (w:=wr) (x:=.cells (eo h (.slice an h.names.length cn) (.slice ak kd.len ck) (.slice ae el.len ce)) 56 (0,0)) (y:=.cells (eo {h with pos:=m} (.slice ab h.names.length aa) (.slice N A.len K) (.slice O E.len M)) 56 (0,0)) (w1:=W) (hW.mono (by simp))
       exact⟨ja q.1,ja q.2.1⟩
      have G:Hid (((wr.alloc (.cells (eo h (.slice an h.names.length cn) (.slice ak kd.len ck) (.slice ae el.len ce)) 56 (0,0))).alloc (.cells (eo {h with pos:=m} (.slice ab h.names.length aa) (.slice N A.len K) (.slice O E.len M)) 56 (0,0))).heap.size=wr.heap.size+2):=by unfold Hid;simp
      have bp:b<wr.heap.size:=by have:=J.2;omega
      have bf:b'<wr.heap.size:=by have:=am.2;omega
      unfold eo at U V G
      dsimp only at U V G
      go_upto_region 8 with(fail)
      clear g0 g1 g2 g3 g4 g5 g6 g7 a6 aZ aY aX aW aV aU aT
      generalize aQ:World.alloc (World.alloc wr _) _=W0 at*
      clear aQ
      obtain⟨⟨p0,p1,p2,p3,p4,p5,p6,p7⟩,⟨q0,q1,q2,q3,q4,q5,q6,q7⟩⟩:=V.out _ (AH _ _)
      dsimp only at q0 q1 q2 q3 q5
      go_wp2_with fail
      refine(PC.out _ U.out).mono ?_
      rintro e w1 ⟨rfl,ay⟩
      have ad:Hid (Below (wr.heap.size+2) W0 w1):=ay.mono (by rw[G.out];exact AG _)
      clear ay p0 p1 p2 p3 p4 p5 p6 p7 q0 q1 q2 q3 q4 q5 q6 q7
      obtain⟨⟨p0,p1,p2,p3,p4,p5,p6,p7⟩,⟨q0,q1,q2,q3,q4,q5,q6,q7⟩⟩:=V.out _ ad.out
      dsimp only at q0 q1 q2 q3 q5
      go_wp2_with fail
      refine(KC.out _ (U.out.trans (ad.out.mono (by omega)))).mono ?_
      rintro e w2 ⟨rfl,ax⟩
      have ac:Hid (Below (wr.heap.size+2) W0 w2):=ad.out.trans (ax.mono (by have:=ad.out.size;rw[G.out]at this;exact this))
      clear ax p0 p1 p2 p3 p4 p5 p6 p7 q0 q1 q2 q3 q4 q5 q6 q7
      obtain⟨⟨p0,p1,p2,p3,p4,p5,p6,p7⟩,⟨q0,q1,q2,q3,q4,q5,q6,q7⟩⟩:=V.out _ ac.out
      dsimp only at q0 q1 q2 q3 q5
      go_wp2_with fail
      refine(EC.out _ (U.out.trans (ac.out.mono (by omega)))).mono ?_
      rintro e w3 ⟨rfl,aw⟩
      have aB:Hid (Below (wr.heap.size+2) W0 w3):=ac.out.trans (aw.mono (by have:=ac.out.size;rw[G.out]at this;exact this))
      clear aw p0 p1 p2 p3 p4 p5 p6 p7 q0 q1 q2 q3 q4 q5 q6 q7
      obtain⟨⟨p0,p1,p2,p3,p4,p5,p6,p7⟩,⟨q0,q1,q2,q3,q4,q5,q6,q7⟩⟩:=V.out _ aB.out
      dsimp only at q0 q1 q2 q3 q5
      have aJ:Hid (Below w.heap.size w w3):=HB.out.trans ((U.out.mono aM).trans (aB.out.mono (by omega)))
      cases pl with
      | false=>
        go_wp2_with fail
        go_roundw
        case rel=>exact⟨k+1,r,s,by go_num,by have:=aH.out;omega,aJ,aG,aC,aI.out.2.2,(λe=>absurd e (by decide)),by omega,aD⟩
        case measure=>simp[intOf];omega
      | true=>
        have aN:=(af.out rfl).2.2.2
        subst aN
        go_wp2_with fail
        go_roundw
        case rel=>exact⟨k+1,r,s,by go_num,by have:=aH.out;omega,aJ,aG,aC,aI.out.2.2,λe=>(af.out e).2.2.1,by omega,aD⟩
        case measure=>simp[intOf];omega
theorem yx (n:Nat):tS n:=by
 induction n with
 | zero=>intro x y h;exact absurd h (Nat.not_lt_zero _)
 | succ n m=>exact wK n m
theorem ic (x y:Pt)(I:x.era=y.era)(r:Bool)(E:r=true->x=y)(ok ok':Nat->Prop)(v o:Value)(w:World)(A:x.sm)(m:x.cnt<=16777216)(hx:d8 ok w v x)(G:d8 ok' w o y):
 Calls Tryz.prog 32 #[v,o,.bool r] w λe w'=>e=.returned (.bool true)/\Below w.heap.size w w':=
 yx (x.cnt+1) x y (Nat.lt_succ_self _) I r E ok ok' v o w A m hx G
theorem hZ.lt {ok:Nat->Prop}{w:World}:∀(l:List Df) (b o:Nat),hZ ok w l b o->hZ (λb=>ok b/\b<w.heap.size) w l b o:=by
 intro l
 induction l with
 | nil=>intro b o _;exact trivial
 | cons d r m=>
   rintro b o ⟨c0,c1,⟨v,c2,h⟩,A⟩
   exact⟨c0,c1,⟨v,c2,h.lt⟩,m b _ A⟩
theorem fU.lt {ok:Nat->Prop}{w:World}{v:Value}{l:List Df}(h:fU ok w v l):fU (λb=>ok b/\b<w.heap.size) w v l:=by
 obtain⟨a,c,A,K,J,I⟩:=h
 refine⟨a,c,A,K,J,λm=> ?_⟩
 obtain⟨b,o,G,E,r⟩:=I m
 refine⟨b,o,G,⟨E,?_⟩,r.lt⟩
 cases l with
 | nil=>exact absurd rfl m
 | cons _ _=>exact ej r.1
theorem jl (x y:Tm)(he:x.era=y.era)(Y:Bool)(af:Y=true->x=y)(ok ok':Nat->Prop)(vm O vd ap:Value)(w:World)(hz:TmZ x)(hx:d8 ok w vm x.main)(hy:d8 ok' w O y.main)(ae:fU ok w vd x.defs)(ad:fU ok' w ap y.defs):
 Calls Tryz.prog 13 #[.agg #[vm,vd],.agg #[O,ap],.bool Y] w λe w'=>e=.returned (.bool true)/\Below w.heap.size w w':=by
 obtain⟨V,m⟩:=x
 obtain⟨ym,yd⟩:=y
 obtain⟨z1,z2,z3,z4,-⟩:=hz
 dsimp only at z1 z2 z3 z4 hx hy ae ad
 simp only[Tm.era,Tm.mk.injEq]at he
 obtain⟨au,ag⟩:=he
 have N:m.length=yd.length:=by have:=congrArg List.length ag;simpa using this
 have MC:Hid (∀W,Below w.heap.size w W->Calls Tryz.prog 32 #[vm,O,.bool Y] W λe w'=>e=.returned (.bool true)/\Below W.heap.size W w'):=λW G=>
  ic V ym au Y (λe=>by have:=af e;injection this) (λb=>ok b/\b<w.heap.size) (λb=>ok' b/\b<w.heap.size) vm O W z1 (by omega) (hx.lt.kept (λb A=>G.block b A.2)) (hy.lt.kept (λb A=>G.block b A.2))
 obtain⟨am,cm,rfl,-⟩:=hx
 obtain⟨J,I,rfl,-⟩:=hy
 obtain⟨a,c,rfl,h1,h2,h3⟩:=ae.lt
 obtain⟨a',c',rfl,aJ,aI,aC⟩:=ad.lt
 have H3:=AF h3
 have aS:=AF aC
 have aQ:=AF af
 have aR:=AF ag
 have aL:=AF z2
 have aO:=AF z3
 have aE:=AF N
 rw[<-N]
 clear h3 aC ae ad h1 h2 aJ aI af ag au z1 z2 z3 N
 have ao:Hid (Below w.heap.size w ((w.alloc (.cells #[.slice am V.len cm,.slice a m.length c] 25)).alloc (.cells #[.slice J ym.len I,.slice a' m.length c'] 25))):=((AH _ w).alloc (AG _) _).alloc (by simp) _
 have aN:Hid (((w.alloc (.cells #[.slice am V.len cm,.slice a m.length c] 25)).alloc (.cells #[.slice J ym.len I,.slice a' m.length c'] 25)).heap[w.heap.size]? =some (.cells #[.slice am V.len cm,.slice a m.length c] 25 (0,0))):=(Below.heap_alloc _ _ _ (by simp)).trans (heap_alloc_new w _)
 have aM:Hid (((w.alloc (.cells #[.slice am V.len cm,.slice a m.length c] 25)).alloc (.cells #[.slice J ym.len I,.slice a' m.length c'] 25)).heap[w.heap.size+1]? =some (.cells #[.slice J ym.len I,.slice a' m.length c'] 25 (0,0))):=by
  have:=heap_alloc_new (w.alloc (.cells #[.slice am V.len cm,.slice a m.length c] 25)) (.cells #[.slice J ym.len I,.slice a' m.length c'] 25)
  rwa[show(w.alloc (.cells #[.slice am V.len cm,.slice a m.length c] 25)).heap.size=w.heap.size+1 by simp]at this
 have aD:Hid (((w.alloc (.cells #[.slice am V.len cm,.slice a m.length c] 25)).alloc (.cells #[.slice J ym.len I,.slice a' m.length c'] 25)).heap.size=w.heap.size+2):=by unfold Hid;simp
 go_enter Tryz.func13,Tryz.ntmps13
 go_wp2_with fail
 generalize aH:World.alloc (World.alloc w _) _=W0 at*
 clear aH
 have aj:Hid (∀W,Below (w.heap.size+2) W0 W->W.cell? ⟨w.heap.size,1,none⟩=some (.slice a m.length c)/\W.cell? ⟨w.heap.size+1,1,none⟩=some (.slice a' m.length c')):=λW G=>
  ⟨by rw[dW ((G.block _ (by omega)).trans aN.out)];rfl,by rw[dW ((G.block _ (by omega)).trans aM.out)];rfl⟩
 refine(MC.out _ ao.out).mono ?_
 rintro e w1 ⟨rfl,aA⟩
 have aG:Hid (Below (w.heap.size+2) W0 w1):=aA.mono (by rw[aD.out];exact AG _)
 clear aA
 obtain⟨t1,t2⟩:=aj.out _ aG.out
 go_wp2_with fail
 go_loopw [8] (λi wr=>∃k:Nat,i=.int .i64 k/\k<=m.length/\Hid (Below (w.heap.size+2) W0 wr)) (λi _=>m.length - (intOf i).toNat)
 case atStart=>exact⟨0,rfl,Nat.zero_le _,aG⟩
 case round=>
  obtain⟨k,rfl,hk,HB⟩:=hrel
  clear t1 t2
  obtain⟨t1,t2⟩:=aj.out _ HB.out
  by_cases M:k<m.length
  · have aT:(k:Int)<(m.length:Int):=by omega
    have aV:(0:Int)<=(k:Int):=by omega
    obtain⟨d,E⟩:∃d,m[k]? =some d:=⟨_,List.getElem?_eq_getElem M⟩
    obtain⟨d',r⟩:∃d,yd[k]? =some d:=⟨_,List.getElem?_eq_getElem (by rw[<-aE.out];exact M)⟩
    have ax:d.era=d'.era:=by
     have:=congrArg (λl=>l[k]?) aR.out
     simp only[List.getElem?_map,E,r,Option.map_some]at this
     injection this
    simp only[Df.era,Df.mk.injEq,true_and]at ax
    obtain⟨aw,ab⟩:=ax
    obtain⟨b,o,rfl,A,Z⟩:=H3.out (by intro e;rw[e]at M;simp at M)
    obtain⟨b',o',rfl,aB,K⟩:=aS.out (by intro e;rw[e]at r;simp at r)
    have al:Hid (Below w.heap.size w wr):=ao.out.trans (HB.out.mono (by omega))
    obtain⟨g0,g1,v,g2,ar⟩:=hZ.at _ _ _ _ _ E (Z.kept (λb A=>al.out.block b A.2) _ _ _ A)
    obtain⟨U,R,v',aK,aa⟩:=hZ.at _ _ _ _ _ r (K.kept (λb A=>al.out.block b A.2) _ _ _ aB)
    have ah:d∈m:=List.mem_of_getElem? E
    have aU:=al.out.size
    have ai:Y=true->d.pos=d'.pos/\d.kids=d'.kids:=λe=>by
     have:=aQ.out e
     injection this with q1 q2
     rw[q2,r]at E
     injection E with q;rw[q];exact⟨rfl,rfl⟩
    have aX:=iX ah
    have KC:Hid (∀W,Below wr.heap.size wr W->Calls Tryz.prog 32 #[v,v',.bool Y] W λe w'=>e=.returned (.bool true)/\Below W.heap.size W w'):=λW G=>
     ic d.kids d'.kids ab Y (λe=>(ai e).2) (λb=>ok b/\b<w.heap.size) (λb=>ok' b/\b<w.heap.size) v v' W (aL.out d ah).2 (by have:=aO.out;omega) (ar.kept (λb A=>G.block b (by have:=A.2;omega))) (aa.kept (λb A=>G.block b (by have:=A.2;omega)))
    have aP:=AF ai
    rw[<-aw]at U
    obtain⟨av,cv,rfl,-⟩:=ar
    obtain⟨aZ,aY,rfl,-⟩:=aa
    have ay:b<wr.heap.size:=by have:=A.2;omega
    have ac:b'<wr.heap.size:=by have:=aB.2;omega
    have HG:Hid (∀W,Below wr.heap.size wr W->W.cell? ⟨b,o+k*3,none⟩=some (.string d.name)/\W.cell? ⟨b,o+k*3+1,none⟩=some (.int .i64 d.pos)/\W.cell? ⟨b',o'+k*3,none⟩=some (.string d.name)/\W.cell? ⟨b',o'+k*3+1,none⟩=some (.int .i64 d'.pos)):=λW G=>
     ⟨(G.cell (p:=⟨b,_,none⟩) ay).trans g0,(G.cell (p:=⟨b,_,none⟩) ay).trans g1,(G.cell (p:=⟨b',_,none⟩) ac).trans U,(G.cell (p:=⟨b',_,none⟩) ac).trans R⟩
    clear E r Z K ah ai aw ab M
    go_upto_region 7 with(fail)
    go_still_tail 13,(by kernel_rfl)
    change wpList _ _ _ _ _ wr.drew
    have ak:Hid (Below wr.heap.size wr wr.drew):=⟨rfl,rfl,rfl,AG _,λ_ _=>rfl⟩
    clear g0 g1 g2 U R aK
    generalize wr.drew=w2 at*
    go_wp2_with fail
    refine(KC.out _ ak.out).mono ?_
    rintro e w3 ⟨rfl,az⟩
    have aF:Hid (Below wr.heap.size wr w3):=ak.out.trans (az.mono ak.out.size)
    have an:Hid (Below (w.heap.size+2) W0 w3):=HB.out.trans (aF.out.mono (by have:=HB.out.size;rw[aD.out]at this;exact this))
    clear az t1 t2 KC
    obtain⟨t1,t2⟩:=aj.out _ an.out
    obtain⟨g0,g1,U,R⟩:=HG.out _ aF.out
    cases Y with
    | false=>
      go_wp2_with fail
      go_quiet (fail)
      go_wp2_with fail
      go_roundw
      case rel=>exact⟨k+1,by go_num,by omega,ei an.out _⟩
      case measure=>simp[intOf];omega
    | true=>
      have aq:=(aP.out rfl).1
      rw[<-aq]at R
      clear aq
      go_wp2_with fail
      go_quiet (fail)
      go_wp2_with fail
      go_roundw
      case rel=>exact⟨k+1,by go_num,by omega,ei an.out _⟩
      case measure=>simp[intOf];omega
  · have aW:¬(k:Int)<(m.length:Int):=by omega
    go_wp2_with fail
    go_ret
    exact⟨rfl,ao.out.trans (HB.out.mono (by omega))⟩
end Go.Proofs.YtepcpgdfbaklfaaGreatDoor
