/- The contract of lacunaref20.Get: a value (in the memory that it came from) and an error. The condition: sizes of at most 2 to the 24th. -/
import Derived.Test.YtepcpgdfbaklfaaGreatDoorQcF1
import Derived.Test.YtepcpgdfbaklfaaGreatDoorQcF0
import Derived.Test.YtepcpgdfbaklfaaGreatDoorQcMath
import Derived.Test.YtepcpgdfbaklfaaGreatDoorQcG9
import Derived.Test.YtepcpgdfbaklfaaGreatDoorQcE0
import Derived.Test.YtepcpgdfbaklfaaGreatDoorQcH1
set_option maxRecDepth 100000
set_option maxHeartbeats 40000000
set_option linter.unusedSimpArgs false
set_option linter.unusedVariables false
namespace Go.Proofs.YtepcpgdfbaklfaaGreatDoor
open Go.RowKit Go.Shelf Ev
attribute [local go_sem ↓] Go.wp_at_zero Go.wp_at_succ
def rgV (r:Except Nat Va):Va:=match r with | .ok x=>x | .error _=>fS
def rgE (r:Except Nat Va):Nat:=match r with | .ok _=>0 | .error n=>n
def RgR (r:Except Nat Va)(ok:Nat->Prop)(w:World)(e:Ending)(w':World):Prop:=∃a1 c1 a2 c2,e=.returned (.tuple #[.agg #[.int .u8 ((rgV r).h.kind:Nat),.bool (rgV r).h.b,.int .i64 (rgV r).h.n,.int .u64 ((rgV r).h.bits:Nat),.string (rgV r).h.text,.slice a1 (rgV r).h.keys.length c1,.slice a2 (rgV r).items.len c2],.int .i64 (rgE r:Nat)])/\
 fu (λb=>ok b/\b<w.heap.size) w' (rgV r) a1 c1 a2 c2/\Below w.heap.size w w'
structure tT (B:Nat)(w0 w:World)(ok:Nat->Prop)(rt:Bool)(vn:Value)(x:Va)(vk vi:Value):Prop where
 res:w.heap[B+3]? =some (.cells eQ 31 (0,0))
 pat:w.heap[B+2]? =some (.cells #[.bool rt,vn] 54 (0,0))
 at_:w.heap[B+4]? =some (.cells (d9 x.h vk vi) 31 (0,0))
 keys:Strs (λb=>ok b/\b<B) w vk x.h.keys
 items:gb (λb=>ok b/\b<B) w vi x.items
 bel:Below B w0 w
 size:B+5<=w.heap.size
 sm:Va.sm x
theorem vO {n:ByteArray}:∀{l:List ByteArray} {k:Nat} {s:ByteArray},l[k]? =some s->k<=gX n l->s≠n->k+1<=gX n l
 | [],k,s,h,_,_=>by simp at h
 | x::r,0,s,h,_,m=>by
   simp at h
   subst h
   simp[gX,m]
 | x::r,k+1,s,h,o,m=>by
   unfold gX at o ⊢
   split
   · rename_i e;rw[if_pos e]at o;omega
   · rename_i e
     rw[if_neg e]at o
     have:=vO (l:=r) (k:=k) (by simpa using h) (by omega) m
     omega
theorem vP {n:ByteArray}:∀{l:List ByteArray} {k:Nat},l[k]? =some n->k<=gX n l->gX n l=k
 | [],k,h,_=>by simp at h
 | x::r,0,h,_=>by
   simp at h
   simp[gX,h]
 | x::r,k+1,h,m=>by
   unfold gX at m ⊢
   split
   · rename_i e;rw[if_pos e]at m;omega
   · rename_i e
     rw[if_neg e]at m
     have:=vP (l:=r) (k:=k) (by simpa using h) (by omega)
     omega
theorem tT.drewN {B:Nat}{w0 w:World}{ok:Nat->Prop}{A:Bool}{m:Value}{x:Va}{o r:Value}(h:tT B w0 w ok A m x o r)(n:Nat):tT B w0 (w.drewN n) ok A m x o r:=
 {res:=h.res,pat:=h.pat,at_:=h.at_,keys:=h.keys.kept (λb E=>rfl),items:=h.items.kept (λb E=>rfl),bel:=ei h.bel n,size:=h.size,sm:=h.sm}
theorem rp (dot root:Va)(rt:Bool)(names:List ByteArray)(aX:Va.sm dot)(aW:Va.sm root)(bH:names.length<=140737488351232)(ok:Nat->Prop)(vd vr vn:Value)(w:World)(hd:g9 ok w vd dot)(hr:g9 ok w vr root)(hn:Strs ok w vn names):
 Calls Tryz.prog 99 #[vd,vr,.agg #[.bool rt,vn]] w (RgR (eU names (if rt then root else dot)) ok w):=by
 obtain⟨x0,am⟩:∃x0,(if rt=true then root else dot)=x0:=⟨_,rfl⟩
 rw[am]
 obtain⟨bE,bF,rfl,aK,bd⟩:=hd
 obtain⟨bC,bD,rfl,aG,ab⟩:=hr
 have aT:=AF aK.lt
 have aU:=AF (gb.lt bd)
 have aP:=AF aG.lt
 have aQ:=AF (gb.lt ab)
 have bw:=AF hn.lt
 obtain⟨a1,c1,rfl⟩:=aK.cases
 obtain⟨a2,c2,rfl,-⟩:=bd
 obtain⟨a3,c3,rfl⟩:=aG.cases
 obtain⟨a4,c4,rfl,-⟩:=ab
 obtain⟨an,cn,rfl⟩:=hn.cases
 have aO:=AF aX
 have aN:=AF aW
 clear aK aG hn aX aW
 have aE:Hid (Below w.heap.size w ((((w.alloc (.cells (d9 dot.h (.slice a1 dot.h.keys.length c1) (.slice a2 dot.items.len c2)) 31)).alloc (.cells (d9 root.h (.slice a3 root.h.keys.length c3) (.slice a4 root.items.len c4)) 31)).alloc (.cells #[.bool rt,.slice an names.length cn] 54)).alloc (.cells eQ 31))):=
  ((((AH _ w).alloc (AG _) _).alloc (by simp) _).alloc (by simp;omega) _).alloc (by simp;omega) _
 have aC:Hid (((((w.alloc (.cells (d9 dot.h (.slice a1 dot.h.keys.length c1) (.slice a2 dot.items.len c2)) 31)).alloc (.cells (d9 root.h (.slice a3 root.h.keys.length c3) (.slice a4 root.items.len c4)) 31)).alloc (.cells #[.bool rt,.slice an names.length cn] 54)).alloc (.cells eQ 31)).heap.size=w.heap.size+4):=by unfold Hid;simp
 have HT:Hid (∀W0,((((w.alloc (.cells (d9 dot.h (.slice a1 dot.h.keys.length c1) (.slice a2 dot.items.len c2)) 31)).alloc (.cells (d9 root.h (.slice a3 root.h.keys.length c3) (.slice a4 root.items.len c4)) 31)).alloc (.cells #[.bool rt,.slice an names.length cn] 54)).alloc (.cells eQ 31))=W0->
  W0.heap[w.heap.size]? =some (.cells (d9 dot.h (.slice a1 dot.h.keys.length c1) (.slice a2 dot.items.len c2)) 31 (0,0))/\W0.heap[w.heap.size+1]? =some (.cells (d9 root.h (.slice a3 root.h.keys.length c3) (.slice a4 root.items.len c4)) 31 (0,0))/\
  W0.heap[w.heap.size+2]? =some (.cells #[.bool rt,.slice an names.length cn] 54 (0,0))/\W0.heap[w.heap.size+3]? =some (.cells eQ 31 (0,0))):=by
  rintro W0 rfl
  generalize hx:Obj.cells (d9 dot.h (.slice a1 dot.h.keys.length c1) (.slice a2 dot.items.len c2)) 31 (0,0)=X
  generalize hy:Obj.cells (d9 root.h (.slice a3 root.h.keys.length c3) (.slice a4 root.items.len c4)) 31 (0,0)=Y
  generalize hz:Obj.cells #[.bool rt,.slice an names.length cn] 54 (0,0)=Z
  generalize hu:Obj.cells eQ 31 (0,0)=U
  have s1:(w.alloc X).heap.size=w.heap.size+1:=by simp
  have s2:((w.alloc X).alloc Y).heap.size=w.heap.size+2:=by simp
  have s3:(((w.alloc X).alloc Y).alloc Z).heap.size=w.heap.size+3:=by simp
  refine⟨?_,?_,?_,?_⟩
  · rw[Below.heap_alloc _ _ _ (by omega),Below.heap_alloc _ _ _ (by omega),Below.heap_alloc _ _ _ (by omega)]
    exact heap_alloc_new w X
  · rw[Below.heap_alloc _ _ _ (by omega),Below.heap_alloc _ _ _ (by omega)]
    have:=heap_alloc_new (w.alloc X) Y;rwa[s1]at this
  · rw[Below.heap_alloc _ _ _ (by omega)]
    have:=heap_alloc_new ((w.alloc X).alloc Y) Z;rwa[s2]at this
  · have:=heap_alloc_new (((w.alloc X).alloc Y).alloc Z) U;rwa[s3]at this
 unfold eQ d9 at aE aC HT
 go_enter Tryz.func99,Tryz.ntmps99
 go_upto_region 1 with(fail)
 simp only[Nat.add_assoc,Nat.reduceAdd]
 generalize E:World.alloc (World.alloc (World.alloc (World.alloc w _) _) _) _=W0 at*
 obtain⟨h0,h1,h2,h3⟩:=HT.out W0 rfl
 clear E HT
 have bm:=AF h0
 have bj:=AF h1
 have aS:=AF h2
 have aR:=AF h3
 obtain⟨d0,d1,d2,d3,d4,d5,d6⟩:=fR (h:=dot.h) h0
 obtain⟨r0,r1,r2,r3,r4,r5,r6⟩:=fR (h:=root.h) h1
 have q0:W0.cell? ⟨w.heap.size+2,0,none⟩=some (.bool rt):=by rw[dW h2];rfl
 have q1:W0.cell? ⟨w.heap.size+2,1,none⟩=some (.slice an names.length cn):=by rw[dW h2];rfl
 have az:W0.heap.size=w.heap.size+4:=aC.out
 clear h0 h1 h2 h3
 have ax:Hid (∀X:Va,∀b1 K b2 J,Strs (λb=>ok b/\b<w.heap.size) w (.slice b1 X.h.keys.length K) X.h.keys->gb (λb=>ok b/\b<w.heap.size) w (.slice b2 X.items.len J) X.items->Va.sm X->
  tT w.heap.size w (W0.alloc (.cells (d9 X.h (.slice b1 X.h.keys.length K) (.slice b2 X.items.len J)) 31)) ok rt (.slice an names.length cn) X (.slice b1 X.h.keys.length K) (.slice b2 X.items.len J)):=by
  intro X b1 K b2 J h1 h2 h3
  have hb:Below w.heap.size w (W0.alloc (.cells (d9 X.h (.slice b1 X.h.keys.length K) (.slice b2 X.items.len J)) 31)):=aE.out.alloc (by omega) _
  exact{res:=(Below.heap_alloc _ _ _ (by omega)).trans aR.out,pat:=(Below.heap_alloc _ _ _ (by omega)).trans aS.out,at_:=by have:=heap_alloc_new W0 (.cells (d9 X.h (.slice b1 X.h.keys.length K) (.slice b2 X.items.len J)) 31);rwa[az]at this,keys:=h1.kept (λb aL=>hb.block b aL.2),items:=h2.kept (λb aL=>hb.block b aL.2),bel:=hb,size:=by simp[az],sm:=h3}
 unfold d9 at ax
 cases rt
 rotate_left
 go_upto_region 4 with(fail)
 have HG:Hid (∃b1 K b2 J,tT w.heap.size w (W0.alloc (.cells #[.int .u8 (root.h.kind:Nat),.bool root.h.b,.int .i64 root.h.n,.int .u64 (root.h.bits:Nat),.string root.h.text,.slice a3 root.h.keys.length c3,.slice a4 root.items.len c4] 31)) ok true (.slice an names.length cn) root (.slice b1 root.h.keys.length K) (.slice b2 root.items.len J)):=⟨_,_,_,_,ax.out root _ _ _ _ aP.out aQ.out aN.out⟩
 clear ax aT aU aP aQ aO aN d0 d1 d2 d3 d4 d5 d6 r0 r1 r2 r3 r4 r5 r6 q0 q1 bm bj aS aR aE aC az
 generalize E:World.alloc W0 _=W1 at*
 clear E
 have e0:x0=root:=by simpa using am.symm
 clear am
 subst e0
 rotate_left
 go_upto_region 4 with(fail)
 have HG:Hid (∃b1 K b2 J,tT w.heap.size w (W0.alloc (.cells #[.int .u8 (dot.h.kind:Nat),.bool dot.h.b,.int .i64 dot.h.n,.int .u64 (dot.h.bits:Nat),.string dot.h.text,.slice a1 dot.h.keys.length c1,.slice a2 dot.items.len c2] 31)) ok false (.slice an names.length cn) dot (.slice b1 dot.h.keys.length K) (.slice b2 dot.items.len J)):=⟨_,_,_,_,ax.out dot _ _ _ _ aT.out aU.out aO.out⟩
 clear ax aT aU aP aQ aO aN d0 d1 d2 d3 d4 d5 d6 r0 r1 r2 r3 r4 r5 r6 q0 q1 bm bj aS aR aE aC az
 generalize E:World.alloc W0 _=W1 at*
 clear E
 have e0:x0=dot:=by simpa using am.symm
 clear am
 subst e0
 all_goals
  obtain⟨rt,aY⟩:∃rt:Bool,Hid (∃b1 K b2 J,tT w.heap.size w W1 ok rt (.slice an names.length cn) x0 (.slice b1 x0.h.keys.length K) (.slice b2 x0.items.len J)):=⟨_,HG⟩
  clear HG
  go_wp2_with fail
  go_loopw [9] (λi wr=>∃(k:Nat) (x:Va) (b1:Option Addr) (K:Nat) (b2:Option Addr) (J:Nat),i=.int .i64 (k:Nat)/\k<=names.length/\Hid (eU (names.drop k) x=eU names x0)/\Hid (tT w.heap.size w wr ok rt (.slice an names.length cn) x (.slice b1 x.h.keys.length K) (.slice b2 x.items.len J))) (λi _=>names.length - (intOf i).toNat)
  case atStart=>
   obtain⟨b1,K,b2,J,hg⟩:=aY.out
   exact⟨0,x0,b1,K,b2,J,rfl,Nat.zero_le _,by rw[List.drop_zero];rfl,hg⟩
  case round=>
  obtain⟨k,x,b1,K,b2,J,rfl,hk,HE,G⟩:=hrel
  clear aY
  obtain⟨i1,i0,i2,i3,i4,i5,i6,i7⟩:=G.out
  have bJ:(0:Int)<=(k:Int):=by omega
  obtain⟨p0,p1,p2,p3,p4,p5,p6⟩:=fR i2
  have r:=AF i1
  have af:=AF i2
  have bg:=AF i0
  have HK:=AF i3
  have bh:=AF i4
  have HB:=AF i5
  have bf:=AF i7
  clear i0 i1 i2 i3 i4 i5 i7
  have q1:wr.cell? ⟨w.heap.size+2,1,none⟩=some (.slice an names.length cn):=by rw[dW bg.out];rfl
  have z0:wr.cell? ⟨w.heap.size+3,0,none⟩=some (.int .u8 0):=by rw[dW r.out];rfl
  have z1:wr.cell? ⟨w.heap.size+3,1,none⟩=some (.bool false):=by rw[dW r.out];rfl
  have z2:wr.cell? ⟨w.heap.size+3,2,none⟩=some (.int .i64 0):=by rw[dW r.out];rfl
  have z3:wr.cell? ⟨w.heap.size+3,3,none⟩=some (.int .u64 0):=by rw[dW r.out];rfl
  have z4:wr.cell? ⟨w.heap.size+3,4,none⟩=some (.string ⟨#[]⟩):=by rw[dW r.out];rfl
  have z5:wr.cell? ⟨w.heap.size+3,5,none⟩=some (.slice none 0 0):=by rw[dW r.out];rfl
  have z6:wr.cell? ⟨w.heap.size+3,6,none⟩=some (.slice none 0 0):=by rw[dW r.out];rfl
  have zf:=dY r.out
  have aM:Hid (∀W,W.heap[w.heap.size+3]? =wr.heap[w.heap.size+3]?→∀a0 a1 a2 a3 a4 a5 a6,fP W (((((((W.setCell ⟨w.heap.size+3,0,none⟩ a0).setCell ⟨w.heap.size+3,1,none⟩ a1).setCell ⟨w.heap.size+3,2,none⟩ a2).setCell ⟨w.heap.size+3,3,none⟩ a3).setCell ⟨w.heap.size+3,4,none⟩ a4).setCell ⟨w.heap.size+3,5,none⟩ a5).setCell ⟨w.heap.size+3,6,none⟩ a6) (w.heap.size+3) 0 7 [a0,a1,a2,a3,a4,a5,a6]):=λW hW a0 a1 a2 a3 a4 a5 a6=>by
   have hb:∀j,W.cell? ⟨w.heap.size+3,j,none⟩=wr.cell? ⟨w.heap.size+3,j,none⟩:=λj=>World.cell?_of_block (w:=wr) hW
   exact o7 (p:=0) a0 a1 a2 a3 a4 a5 a6 ((hb 0).trans z0) ((hb 1).trans z1) ((hb 2).trans z2) ((hb 3).trans z3) ((hb 4).trans z4) ((hb 5).trans z5) ((hb 6).trans z6)
  have aj:Hid (∀n:Nat,eU (names.drop k) x=.error n->∀W W',Below w.heap.size w W->fP W W' (w.heap.size+3) 0 7 [.int .u8 0,.bool false,.int .i64 0,.int .u64 0,.string ⟨#[]⟩,.slice none 0 0,.slice none 0 0]->RgR (eU names x0) ok w (.returned (.tuple #[.agg #[.int .u8 0,.bool false,.int .i64 0,.int .u64 0,.string ⟨#[]⟩,.slice none 0 0,.slice none 0 0],.int .i64 (n:Nat)])) W'):=λn hn W W' bu hW=>by
   rw[<-HE.out,hn]
   exact⟨none,0,none,0,rfl,⟨Strs.nil _ _,gb.nil _ _⟩,bu.trans (hW.below (by omega))⟩
  by_cases ao:k<names.length
  rotate_left
  · have bO:¬(k:Int)<(names.length:Int):=by omega
    have bv:Hid (eU names x0=.ok x):=by unfold Hid;rw[<-HE.out,List.drop_of_length_le (by omega),eU]
    have A:=AF (aM.out wr rfl (.int .u8 (x.h.kind:Nat)) (.bool x.h.b) (.int .i64 x.h.n) (.int .u64 (x.h.bits:Nat)) (.string x.h.text) (.slice b1 x.h.keys.length K) (.slice b2 x.items.len J))
    clear aj ao G
    go_wp2_with fail
    generalize E:World.setCell _ _ _=W5 at*
    clear E
    refine⟨rfl,_,eJ rfl rfl rfl A.out.is,?_⟩
    have O:eL (λb=>ok b/\b<w.heap.size) wr W5:=λb hb=>A.out.oth b (by have:=hb.2;omega)
    show RgR (eU names x0) ok w _ _
    rw[bv.out]
    exact⟨b1,K,b2,J,rfl,⟨HK.out.kept O,bh.out.kept O⟩,HB.out.trans (A.out.below (by omega))⟩
  have bB:(k:Int)<(names.length:Int):=by omega
  obtain⟨n,aH⟩:∃n,names[k]? =some n:=⟨_,List.getElem?_eq_getElem ao⟩
  obtain⟨bn,on,rfl,bs,be⟩:∃bn on,an=some ⟨bn,on,none⟩/\bn<w.heap.size/\w.cell? ⟨bn,on+k,none⟩=some (.string n):=by
   obtain⟨a',c',hv,-,-,h3⟩:=bw.out
   injection hv with hv
   subst hv
   obtain⟨b,o,K,J,e3⟩:=h3 (by intro e;rw[e]at ao;simp at ao)
   exact⟨b,o,K,J.2,e3 k n aH⟩
  have bz:=AF be
  have bo:=AF (lf aH)
  clear aH be ao
  by_cases ak:x.h.kind=7
  rotate_left
  · have k7:((x.h.kind:Int)==7)=false:=beq_eq_false_iff_ne.2 (by omega)
    have aV:((x.h.kind:Int)!=7)=true:=by simp[bne,k7]
    have bA:¬(x.h.kind:Int)=7:=by omega
    have ay:Hid (eU (names.drop k) x=.error 201):=by unfold Hid;rw[bo.out,eU,if_neg ak]
    have A:=AF (aM.out wr rfl (.int .u8 0) (.bool false) (.int .i64 0) (.int .u64 0) (.string ⟨#[]⟩) (.slice none 0 0) (.slice none 0 0))
    clear ak p1 p2 p3 p4 p5 p6 G
    go_wp2_with fail
    generalize E:World.setCell _ _ _=W5 at*
    clear E
    exact⟨rfl,_,eJ rfl rfl rfl A.out.is,aj.out 201 ay.out wr W5 HB.out A.out⟩
  have k7:((x.h.kind:Int)==7)=true:=by rw[ak];rfl
  have aV:((x.h.kind:Int)!=7)=false:=by rw[ak];rfl
  have aD:Hid (eU (names.drop k) x=if gX n x.h.keys<x.h.keys.length then(match x.items.get (gX n x.h.keys)with | some y=>eU (names.drop (k+1)) y | none=>.error 200)else .error 200):=by
   unfold Hid;rw[bo.out,eU,if_pos ak];rfl
  clear ak
  have bI:x.h.keys.length<=16777216:=bf.out.1.2.2.2.2.2.1
  have bN:x.items.len<=16777216:=Nat.le_trans (eS _) bf.out.2.2
  go_upto_region 9 with(fail)
  clear z0 z1 z2 z3 z4 z5 z6 zf p0 p1 p2 p3 p4 p5 p6 k7 aV r bg HK bh HB q1 aM af
  go_wp2_with fail
  go_loopw [10,11] (λbq bp wr=>∃(j:Nat) (at_:Int),bq=.int .i64 at_/\bp=.int .i64 (j:Nat)/\j<=x.h.keys.length/\j<=x.items.len/\Hid (tT w.heap.size w wr ok rt (.slice (some ⟨bn,on,none⟩) names.length cn) x (.slice b1 x.h.keys.length K) (.slice b2 x.items.len J))/\((at_= -1/\j<=gX n x.h.keys)\/(at_=(gX n x.h.keys:Nat)/\gX n x.h.keys<j))) (λ_ i _=>x.h.keys.length - (intOf i).toNat)
  case atStart=>exact⟨0,-1,rfl,rfl,Nat.zero_le _,Nat.zero_le _,G,.inl ⟨rfl,Nat.zero_le _⟩⟩
  case round=>
  clear G
  obtain⟨j,at_,rfl,rfl,bL,bK,G,bt⟩:=hrel
  have af:=AF G.out.at_
  have HB:=AF G.out.bel
  obtain⟨p0,p1,p2,p3,p4,p5,p6⟩:=fR G.out.at_
  have q1:wr.cell? ⟨w.heap.size+2,1,none⟩=some (.slice (some ⟨bn,on,none⟩) names.length cn):=by rw[dW G.out.pat];rfl
  have bM:(0:Int)<=(j:Int):=by omega
  rcases bt with⟨rfl,aB⟩ | ⟨rfl,aB⟩
  rotate_left
  · obtain⟨q,hq⟩:∃q,gX n x.h.keys=q:=⟨_,rfl⟩
    have av:Hid (eU (names.drop k) x=match x.items.get q with | some y=>eU (names.drop (k+1)) y | none=>.error 200):=by unfold Hid;rw[aD.out,if_pos (by omega),hq]
    rw[hq]at aB ⊢
    clear hq aD
    have br:¬(q:Int)<0:=by omega
    have hd0:decide ((q:Int)<0)=false:=decide_eq_false br
    by_cases al:j<x.h.keys.length
    · have ae:(j:Int)<(x.h.keys.length:Int):=by omega
      by_cases aI:j<x.items.len
      · have ad:(j:Int)<(x.items.len:Int):=by omega
        have a7:¬(q:Int)<0:=by omega
        have aZ:(0:Int)<=(q:Int):=by omega
        have ac:(q:Int)<(x.items.len:Int):=by omega
        obtain⟨y,hy⟩:=jw (l:=x.items) (i:=q) (by omega)
        have au:Hid (eU (names.drop (k+1)) y=eU names x0):=by unfold Hid;rw[<-HE.out,av.out,hy]
        have aq:=AF (Va.sm_get G.out.sm hy)
        obtain⟨ai,ci,M,-,-,ab⟩:=G.out.items
        injection M with M
        subst M
        obtain⟨bi,oi,rfl,ap,I⟩:=ab (by intro e;rw[e]at ac;simp[Vl.len]at ac;omega)
        obtain⟨rr,aa⟩:=fF.at _ _ _ _ _ I hy
        rw[show oi+7*q=oi+q*7 by omega]at aa
        obtain⟨⟨c0,c1,c2,c3,c4,v5,c5,N⟩,⟨ag,cg,c6,g1,g2,g3⟩,-⟩:=aa
        obtain⟨V,R,rfl⟩:=N.cases
        have a8:bi≠w.heap.size+4:=by have:=ap.2;omega
        have pf:=dY af.out
        have ar:=AF N
        have aw:Hid (gb (λb=>ok b/\b<w.heap.size) wr (.slice ag y.items.len cg) y.items):=⟨ag,cg,rfl,g1,g2,g3⟩
        clear N g3 I hy
        go_wp2_with fail
        have m:=AF (o7 (p:=0) (.int .u8 (y.h.kind:Nat)) (.bool y.h.b) (.int .i64 y.h.n) (.int .u64 (y.h.bits:Nat)) (.string y.h.text) (.slice V y.h.keys.length R) (.slice ag y.items.len cg) p0 p1 p2 p3 p4 p5 p6)
        simp only[Nat.zero_add]at m
        have ah:=AF (jj af.out (.int .u8 (y.h.kind:Nat)) (.bool y.h.b) (.int .i64 y.h.n) (.int .u64 (y.h.bits:Nat)) (.string y.h.text) (.slice V y.h.keys.length R) (.slice ag y.items.len cg))
        generalize E:World.setCell _ _ _=W5 at*
        clear E
        have O:eL (λb=>ok b/\b<w.heap.size) wr W5:=λb hb=>m.out.oth b (by have:=hb.2;omega)
        go_roundw
        case rel=>exact⟨k+1,y,V,R,ag,cg,by go_num,by omega,au,{res:=(m.out.oth _ (by omega)).trans G.out.res,pat:=(m.out.oth _ (by omega)).trans G.out.pat,at_:=ah.out,keys:=ar.out.kept O,items:=aw.out.kept O,bel:=HB.out.trans (m.out.below (by omega)),size:=by rw[m.out.size];exact G.out.size,sm:=aq.out}⟩
        case measure=>simp[intOf];omega
      · have ad:¬(j:Int)<(x.items.len:Int):=by omega
        have ba:decide ((j:Int)<(x.items.len:Int))=false:=decide_eq_false ad
        have a7:¬(q:Int)<0:=by omega
        have aZ:(0:Int)<=(q:Int):=by omega
        have ac:(q:Int)<(x.items.len:Int):=by omega
        obtain⟨y,hy⟩:=jw (l:=x.items) (i:=q) (by omega)
        have au:Hid (eU (names.drop (k+1)) y=eU names x0):=by unfold Hid;rw[<-HE.out,av.out,hy]
        have aq:=AF (Va.sm_get G.out.sm hy)
        obtain⟨ai,ci,M,-,-,ab⟩:=G.out.items
        injection M with M
        subst M
        obtain⟨bi,oi,rfl,ap,I⟩:=ab (by intro e;rw[e]at ac;simp[Vl.len]at ac;omega)
        obtain⟨rr,aa⟩:=fF.at _ _ _ _ _ I hy
        rw[show oi+7*q=oi+q*7 by omega]at aa
        obtain⟨⟨c0,c1,c2,c3,c4,v5,c5,N⟩,⟨ag,cg,c6,g1,g2,g3⟩,-⟩:=aa
        obtain⟨V,R,rfl⟩:=N.cases
        have a8:bi≠w.heap.size+4:=by have:=ap.2;omega
        have pf:=dY af.out
        have ar:=AF N
        have aw:Hid (gb (λb=>ok b/\b<w.heap.size) wr (.slice ag y.items.len cg) y.items):=⟨ag,cg,rfl,g1,g2,g3⟩
        clear N g3 I hy
        go_wp2_with fail
        have m:=AF (o7 (p:=0) (.int .u8 (y.h.kind:Nat)) (.bool y.h.b) (.int .i64 y.h.n) (.int .u64 (y.h.bits:Nat)) (.string y.h.text) (.slice V y.h.keys.length R) (.slice ag y.items.len cg) p0 p1 p2 p3 p4 p5 p6)
        simp only[Nat.zero_add]at m
        have ah:=AF (jj af.out (.int .u8 (y.h.kind:Nat)) (.bool y.h.b) (.int .i64 y.h.n) (.int .u64 (y.h.bits:Nat)) (.string y.h.text) (.slice V y.h.keys.length R) (.slice ag y.items.len cg))
        generalize E:World.setCell _ _ _=W5 at*
        clear E
        have O:eL (λb=>ok b/\b<w.heap.size) wr W5:=λb hb=>m.out.oth b (by have:=hb.2;omega)
        go_roundw
        case rel=>exact⟨k+1,y,V,R,ag,cg,by go_num,by omega,au,{res:=(m.out.oth _ (by omega)).trans G.out.res,pat:=(m.out.oth _ (by omega)).trans G.out.pat,at_:=ah.out,keys:=ar.out.kept O,items:=aw.out.kept O,bel:=HB.out.trans (m.out.below (by omega)),size:=by rw[m.out.size];exact G.out.size,sm:=aq.out}⟩
        case measure=>simp[intOf];omega
    · have ae:¬(j:Int)<(x.h.keys.length:Int):=by omega
      have bc:decide ((j:Int)<(x.h.keys.length:Int))=false:=decide_eq_false ae
      have a7:¬(q:Int)<0:=by omega
      have aZ:(0:Int)<=(q:Int):=by omega
      have ac:(q:Int)<(x.items.len:Int):=by omega
      obtain⟨y,hy⟩:=jw (l:=x.items) (i:=q) (by omega)
      have au:Hid (eU (names.drop (k+1)) y=eU names x0):=by unfold Hid;rw[<-HE.out,av.out,hy]
      have aq:=AF (Va.sm_get G.out.sm hy)
      obtain⟨ai,ci,M,-,-,ab⟩:=G.out.items
      injection M with M
      subst M
      obtain⟨bi,oi,rfl,ap,I⟩:=ab (by intro e;rw[e]at ac;simp[Vl.len]at ac;omega)
      obtain⟨rr,aa⟩:=fF.at _ _ _ _ _ I hy
      rw[show oi+7*q=oi+q*7 by omega]at aa
      obtain⟨⟨c0,c1,c2,c3,c4,v5,c5,N⟩,⟨ag,cg,c6,g1,g2,g3⟩,-⟩:=aa
      obtain⟨V,R,rfl⟩:=N.cases
      have a8:bi≠w.heap.size+4:=by have:=ap.2;omega
      have pf:=dY af.out
      have ar:=AF N
      have aw:Hid (gb (λb=>ok b/\b<w.heap.size) wr (.slice ag y.items.len cg) y.items):=⟨ag,cg,rfl,g1,g2,g3⟩
      clear N g3 I hy
      go_wp2_with fail
      have m:=AF (o7 (p:=0) (.int .u8 (y.h.kind:Nat)) (.bool y.h.b) (.int .i64 y.h.n) (.int .u64 (y.h.bits:Nat)) (.string y.h.text) (.slice V y.h.keys.length R) (.slice ag y.items.len cg) p0 p1 p2 p3 p4 p5 p6)
      simp only[Nat.zero_add]at m
      have ah:=AF (jj af.out (.int .u8 (y.h.kind:Nat)) (.bool y.h.b) (.int .i64 y.h.n) (.int .u64 (y.h.bits:Nat)) (.string y.h.text) (.slice V y.h.keys.length R) (.slice ag y.items.len cg))
      generalize E:World.setCell _ _ _=W5 at*
      clear E
      have O:eL (λb=>ok b/\b<w.heap.size) wr W5:=λb hb=>m.out.oth b (by have:=hb.2;omega)
      go_roundw
      case rel=>exact⟨k+1,y,V,R,ag,cg,by go_num,by omega,au,{res:=(m.out.oth _ (by omega)).trans G.out.res,pat:=(m.out.oth _ (by omega)).trans G.out.pat,at_:=ah.out,keys:=ar.out.kept O,items:=aw.out.kept O,bel:=HB.out.trans (m.out.below (by omega)),size:=by rw[m.out.size];exact G.out.size,sm:=aq.out}⟩
      case measure=>simp[intOf];omega
  by_cases al:j<x.h.keys.length
  rotate_left
  · have ae:¬(j:Int)<(x.h.keys.length:Int):=by omega
    have bc:decide ((j:Int)<(x.h.keys.length:Int))=false:=decide_eq_false ae
    have ay:Hid (eU (names.drop k) x=.error 200):=by unfold Hid;rw[aD.out,if_neg (by omega)]
    have r:=AF G.out.res
    have z0:wr.cell? ⟨w.heap.size+3,0,none⟩=some (.int .u8 0):=by rw[dW r.out];rfl
    have z1:wr.cell? ⟨w.heap.size+3,1,none⟩=some (.bool false):=by rw[dW r.out];rfl
    have z2:wr.cell? ⟨w.heap.size+3,2,none⟩=some (.int .i64 0):=by rw[dW r.out];rfl
    have z3:wr.cell? ⟨w.heap.size+3,3,none⟩=some (.int .u64 0):=by rw[dW r.out];rfl
    have z4:wr.cell? ⟨w.heap.size+3,4,none⟩=some (.string ⟨#[]⟩):=by rw[dW r.out];rfl
    have z5:wr.cell? ⟨w.heap.size+3,5,none⟩=some (.slice none 0 0):=by rw[dW r.out];rfl
    have z6:wr.cell? ⟨w.heap.size+3,6,none⟩=some (.slice none 0 0):=by rw[dW r.out];rfl
    have zf:=dY r.out
    have A:=AF (o7 (w:=wr) (g:=w.heap.size+3) (p:=0) (.int .u8 0) (.bool false) (.int .i64 0) (.int .u64 0) (.string ⟨#[]⟩) (.slice none 0 0) (.slice none 0 0) z0 z1 z2 z3 z4 z5 z6)
    simp only[Nat.zero_add]at A
    clear p0 p1 p2 p3 p4
    go_wp2_with fail
    generalize E:World.setCell _ _ _=W5 at*
    clear E
    exact⟨rfl,_,eJ rfl rfl rfl A.out.is,aj.out 200 ay.out wr W5 HB.out A.out⟩
  have ae:(j:Int)<(x.h.keys.length:Int):=by omega
  by_cases aI:j<x.items.len
  rotate_left
  · have ad:¬(j:Int)<(x.items.len:Int):=by omega
    have ba:decide ((j:Int)<(x.items.len:Int))=false:=decide_eq_false ad
    have ay:Hid (eU (names.drop k) x=.error 200):=by
     unfold Hid
     rw[aD.out]
     split
     · rw[mN (by omega)]
     · rfl
    have r:=AF G.out.res
    have z0:wr.cell? ⟨w.heap.size+3,0,none⟩=some (.int .u8 0):=by rw[dW r.out];rfl
    have z1:wr.cell? ⟨w.heap.size+3,1,none⟩=some (.bool false):=by rw[dW r.out];rfl
    have z2:wr.cell? ⟨w.heap.size+3,2,none⟩=some (.int .i64 0):=by rw[dW r.out];rfl
    have z3:wr.cell? ⟨w.heap.size+3,3,none⟩=some (.int .u64 0):=by rw[dW r.out];rfl
    have z4:wr.cell? ⟨w.heap.size+3,4,none⟩=some (.string ⟨#[]⟩):=by rw[dW r.out];rfl
    have z5:wr.cell? ⟨w.heap.size+3,5,none⟩=some (.slice none 0 0):=by rw[dW r.out];rfl
    have z6:wr.cell? ⟨w.heap.size+3,6,none⟩=some (.slice none 0 0):=by rw[dW r.out];rfl
    have zf:=dY r.out
    have A:=AF (o7 (w:=wr) (g:=w.heap.size+3) (p:=0) (.int .u8 0) (.bool false) (.int .i64 0) (.int .u64 0) (.string ⟨#[]⟩) (.slice none 0 0) (.slice none 0 0) z0 z1 z2 z3 z4 z5 z6)
    simp only[Nat.zero_add]at A
    clear p0 p1 p2 p3 p4
    go_wp2_with fail
    generalize E:World.setCell _ _ _=W5 at*
    clear E
    exact⟨rfl,_,eJ rfl rfl rfl A.out.is,aj.out 200 ay.out wr W5 HB.out A.out⟩
  have ad:(j:Int)<(x.items.len:Int):=by omega
  obtain⟨s,hs⟩:∃s,x.h.keys[j]? =some s:=⟨_,List.getElem?_eq_getElem al⟩
  obtain⟨bk,aF,rfl,bQ,bP⟩:∃bk aF,b1=some ⟨bk,aF,none⟩/\bk<w.heap.size/\wr.cell? ⟨bk,aF+j,none⟩=some (.string s):=by
   obtain⟨a',c',hv,-,-,h3⟩:=G.out.keys
   injection hv with hv
   subst hv
   obtain⟨b,o,K,J,e3⟩:=h3 (by intro e;rw[e]at al;simp at al)
   exact⟨b,o,K,J.2,e3 j s hs⟩
  have bR:wr.cell? ⟨bn,on+k,none⟩=some (.string n):=(HB.out.cell (p:=⟨bn,_,none⟩) bs).trans bz.out
  by_cases aA:s=n
  · subst aA
    have aJ:=vP hs aB
    clear hs al aI
    go_wp2_with fail
    go_quiet (fail)
    go_wp2_with fail
    go_roundw
    case rel=>exact⟨j+1,(j:Int),by go_num,by go_num,by omega,by omega,tT.drewN G.out _,.inr ⟨by rw[aJ],by omega⟩⟩
    case measure=>simp[intOf];omega
  · have aJ:=vO hs aB aA
    have bG:(s.toList==n.toList)=false:=beq_eq_false_iff_ne.2 (λe=>aA (by rw[ByteArray.toList_eq,ByteArray.toList_eq]at e;exact ByteArray.ext (Array.ext' e)))
    clear hs aA al aI
    go_wp2_with fail
    go_quiet (fail)
    go_wp2_with fail
    go_roundw
    case rel=>exact⟨j+1,-1,by go_num,by go_num,by omega,by omega,tT.drewN G.out _,.inl ⟨rfl,aJ⟩⟩
    case measure=>simp[intOf];omega
theorem oZ (x:Va)(R:Va.sm x)(a1 a2:Option Addr)(c1 c2:Nat)(w:World):
 Calls Tryz.prog 101 #[.agg #[.int .u8 (x.h.kind:Nat),.bool x.h.b,.int .i64 x.h.n,.int .u64 (x.h.bits:Nat),.string x.h.text,.slice a1 x.h.keys.length c1,.slice a2 x.items.len c2]] w λe w'=>e=.returned (.bool (fV x))/\Below w.heap.size w w':=by
 obtain⟨⟨W,-,-,I,-⟩,-⟩:=R
 obtain⟨⟨kind,b,n,bits,text,keys⟩,m⟩:=x
 dsimp only at W I ⊢
 have G:Hid (Below w.heap.size w (w.alloc (.cells #[.int .u8 (kind:Nat),.bool b,.int .i64 n,.int .u64 (bits:Nat),.string text,.slice a1 keys.length c1,.slice a2 m.len c2] 31))):=(AH _ w).alloc (AG _) _
 by_cases N:kind=2
 · subst N
   go_enter Tryz.func101,Tryz.ntmps101
   go_wp2_with fail
   go_ret
   exact⟨rfl,G.out⟩
 by_cases M:kind=3
 · subst M
   go_enter Tryz.func101,Tryz.ntmps101
   go_wp2_with fail
   go_ret
   refine⟨?_,G.out⟩
   show Ending.returned (.bool (n !=0))=_
   congr 2
   show(n !=0)=fV ⟨⟨3,b,n,bits,text,keys⟩,m⟩
   simp only[fV]
   by_cases o:n=0
   · subst o;rfl
   · simp[o]
 by_cases K:kind=4
 · subst K
   obtain⟨r,V⟩:∃r:Nat,bits % 9223372036854775808=r:=⟨_,rfl⟩
   have U:r<9223372036854775808:=by omega
   have Z:(bits:Int) % 9223372036854775808=(r:Int):=by omega
   have Y:Int.tmod (bits:Int) 9223372036854775808=(r:Int):=by rw[Int.tmod_eq_emod_of_nonneg (by omega)];exact Z
   have E:Hid (fV ⟨⟨4,b,n,bits,text,keys⟩,m⟩=decide (r≠0/\r<=9218868437227405312)):=by unfold Hid;simp[fV,V]
   rw[E.out]
   by_cases o:r=0
   · subst o
     go_enter Tryz.func101,Tryz.ntmps101
     go_wp2_with fail
     go_ret
     exact⟨by simp,G.out⟩
   · have h1:((r:Int)==0)=false:=beq_eq_false_iff_ne.2 (by omega)
     have aa:((r:Int)!=0)=true:=by simp[bne,h1]
     by_cases O:r<=9218868437227405312
     · have h3:decide ((r:Int)<=9218868437227405312)=true:=decide_eq_true (by omega)
       have h4:(r:Int)<=9218868437227405312:=by omega
       go_enter Tryz.func101,Tryz.ntmps101
       go_wp2_with fail
       go_ret
       exact⟨by simp[o,O],G.out⟩
     · have h3:decide ((r:Int)<=9218868437227405312)=false:=decide_eq_false (by omega)
       go_enter Tryz.func101,Tryz.ntmps101
       go_wp2_with fail
       go_ret
       exact⟨by simp[o,O],G.out⟩
 by_cases J:kind=5
 · subst J
   have E:Hid (fV ⟨⟨5,b,n,bits,text,keys⟩,m⟩=decide (text.size≠0)):=by unfold Hid;simp[fV]
   rw[E.out]
   go_enter Tryz.func101,Tryz.ntmps101
   go_wp2_with fail
   go_ret
   refine⟨?_,G.out⟩
   show Ending.returned (.bool !text.toList.isEmpty)=_
   congr 2
   by_cases o:text.size=0
   · rw[show text.toList.isEmpty=true by rw[ia text o,ByteArray.toList_eq];rfl];simp[o]
   · rw[iN text (by omega)];simp[o]
 by_cases A:kind=6\/kind=7
 · have E:Hid (fV ⟨⟨kind,b,n,bits,text,keys⟩,m⟩=decide (m.len≠0)):=by
    unfold Hid
    simp[fV,N,M,K,J,A]
   rw[E.out]
   clear E
   rcases A with rfl | rfl
   all_goals
    go_enter Tryz.func101,Tryz.ntmps101
    go_wp2_with fail
    go_ret
    refine⟨?_,G.out⟩
    show Ending.returned (.bool (decide (0<m.len)))=_
    congr 2
    by_cases o:m.len=0
    · simp[o]
    · rw[decide_eq_true (show 0<m.len by omega),decide_eq_true o]
 · have E:Hid (fV ⟨⟨kind,b,n,bits,text,keys⟩,m⟩=false):=by unfold Hid;simp[fV,N,M,K,J,A]
   rw[E.out]
   clear E
   have g2:((kind:Int)==2)=false:=beq_eq_false_iff_ne.2 (by omega)
   have g3:((kind:Int)==3)=false:=beq_eq_false_iff_ne.2 (by omega)
   have g4:((kind:Int)==4)=false:=beq_eq_false_iff_ne.2 (by omega)
   have g5:((kind:Int)==5)=false:=beq_eq_false_iff_ne.2 (by omega)
   have g6:((kind:Int)==6)=false:=beq_eq_false_iff_ne.2 (by omega)
   have g7:((kind:Int)==7)=false:=beq_eq_false_iff_ne.2 (by omega)
   clear N M K J A
   go_enter Tryz.func101,Tryz.ntmps101
   go_wp2_with fail
   go_ret
   exact⟨rfl,G.out⟩
def Mb (M:Nat)(o r m:Value)(f C e p:Int)(w:World):Prop:=w.heap[M]? =some (.cells #[o,r,m,.int .i64 f,.int .i64 C,.int .i64 e,.int .i64 p] 81 (0,0))
structure Ax (M:Nat)(vm vd vo:Value)(f C e p:Int)(w:World):Prop where
 c0:w.cell? ⟨M,0,none⟩=some vm
 c1:w.cell? ⟨M,1,none⟩=some vd
 c2:w.cell? ⟨M,2,none⟩=some vo
 c3:w.cell? ⟨M,3,none⟩=some (.int .i64 f)
 c4:w.cell? ⟨M,4,none⟩=some (.int .i64 C)
 c5:w.cell? ⟨M,5,none⟩=some (.int .i64 e)
 c6:w.cell? ⟨M,6,none⟩=some (.int .i64 p)
 fz:∀j,w.frozen? ⟨M,j,none⟩=false
theorem Mb.cs {M:Nat}{o r m:Value}{f C e p:Int}{w:World}(h:Mb M o r m f C e p w):Ax M o r m f C e p w:=by
 unfold Mb at h
 exact⟨by rw[dW h];rfl,by rw[dW h];rfl,by rw[dW h];rfl,by rw[dW h];rfl,by rw[dW h];rfl,by rw[dW h];rfl,by rw[dW h];rfl,dY h⟩
def m8 (M:Nat)(w w':World):Prop:=Off (·≠M) w w'/\w'.heap.size=w.heap.size
theorem m8.refl (M:Nat)(w:World):m8 M w w:=⟨Off.refl _ _,rfl⟩
theorem m8.trans {M:Nat}{a b c:World}(h:m8 M a b)(k:m8 M b c):m8 M a c:=⟨h.1.trans k.1,k.2.trans h.2⟩
theorem m8.set (M j:Nat)(u:Value)(w:World):m8 M w (w.setCell ⟨M,j,none⟩ u):=
 ⟨⟨rfl,rfl,rfl,by simp[World.setCell],λb m=>Below.heap_setCell _ _ _ _ (λe=>m e)⟩,by simp[World.setCell]⟩
theorem iD (M:Nat)(E G A:Value)(f C:Int)(e m:Nat)(p p2:Int)(w:World)(h:Mb M E G A f C (e:Nat) p w):
 Calls Tryz.prog 100 #[.pointer (some ⟨M,0,none⟩),.int .i64 (m:Nat),.int .i64 p2] w λr w'=>r=.returned (.tuple #[])/\m8 M w w'/\Mb M E G A f C ((if e=0/\m≠0 then m else e:Nat):Int) (if e=0/\m≠0 then p2 else p) w':=by
 obtain⟨c0,c1,c2,c3,c4,c5,c6,fz⟩:=h.cs
 have K:=AF h
 clear h c0 c1 c2 c3 c4
 by_cases J:e=0
 · subst J
   by_cases I:m=0
   · subst I
     go_enter Tryz.func100,Tryz.ntmps100
     go_wp2_with fail
     go_end0
     exact⟨rfl,m8.refl _ _,K.out⟩
   · have o:((m:Int)!=0)=true:=by
      have:((m:Int)==0)=false:=beq_eq_false_iff_ne.2 (by omega)
      simp only[bne,this];rfl
     have R:((m:Int)==0)=false:=beq_eq_false_iff_ne.2 (by omega)
     have O:¬(m:Int)=0:=by omega
     go_enter Tryz.func100,Tryz.ntmps100
     go_wp2_with fail
     all_goals
      go_end0
      refine⟨rfl,(m8.set M 5 _ w).trans (m8.set M 6 _ _),?_⟩
      have N:(w.setCell ⟨M,5,none⟩ (.int .i64 (m:Nat))).heap[M]? =some (.cells #[E,G,A,.int .i64 f,.int .i64 C,.int .i64 (m:Nat),.int .i64 p] 81 (0,0)):=d7 (j:=5) K.out _
      exact d7 (j:=6) N _
 · have N:((e:Int)==0)=false:=beq_eq_false_iff_ne.2 (by omega)
   have o:¬(e=0/\m≠0):=λq=>J q.1
   rw[if_neg o,if_neg o]
   clear J o
   go_enter Tryz.func100,Tryz.ntmps100
   go_wp2_with fail
   go_end0
   exact⟨rfl,m8.refl _ _,K.out⟩
theorem ly (M:Nat)(o A m:Value)(f:Nat)(V:f<=1000000)(C p p2:Int)(w:World)(h:Mb M o A m (f:Nat) C 0 p w):
 Calls Tryz.prog 98 #[.pointer (some ⟨M,0,none⟩),.int .i64 p2] w λr w'=>r=.returned (.tuple #[])/\m8 M w w'/\(f=0->Mb M o A m 0 C 202 p2 w')/\∀g,f=g+1->Mb M o A m (g:Nat) C 0 p w':=by
 obtain⟨c0,c1,c2,c3,c4,c5,c6,fz⟩:=h.cs
 have N:=AF h
 clear c0 c1 c2 c4 c5 c6
 cases f with
 | zero=>
   have U:=AF (iD M o A m 0 C 0 202 p p2 w h)
   clear h
   go_enter Tryz.func98,Tryz.ntmps98
   go_wp2_with fail
   refine U.out.mono ?_
   rintro e w2 ⟨rfl,G,E⟩
   have R:=AF G
   have O:=AF E
   clear G E c3 fz
   go_wp2_with fail
   first | go_end0 | refine bodyPost_ret (results_none rfl _ _ _) rfl ?_
   exact⟨rfl,R.out,λ_=>O.out,λg J=>by omega⟩
 | succ g=>
   have J:((((g+1:Nat):Int))==0)=false:=beq_eq_false_iff_ne.2 (by omega)
   clear h
   go_enter Tryz.func98,Tryz.ntmps98
   go_wp2_with fail
   go_end0
   refine⟨rfl,m8.set _ _ _ _,λh=>by omega,λK I=> ?_⟩
   obtain rfl:g=K:=by omega
   have:=d7 (j:=3) N.out (.int .i64 ((g:Nat):Int))
   exact this
def erN (st:Ev.Rs):Nat:=match st.err with | none=>0 | some (n,_)=>n
def erP (st:Ev.Rs):Int:=match st.err with | none=>0 | some (_,p)=>p
def qH (M:Nat)(w:World)(v:Value)(l:List Pc):Prop:=∃cs,w.ownsRow (M+1) 44 10 v l.length cs/\fQ (·<M) w l cs
def MsS (M:Nat)(o r:Value)(C:Nat)(st:Ev.Rs)(w:World):Prop:=∃m,qH M w m st.out/\Mb M o r m (st.fuel:Nat) (C:Nat) (erN st:Nat) (erP st) w
def Kt (M:Nat)(w w':World):Prop:=Below M w w'/\∀b cs T fr,b≠M->w.heap[b]? =some (.cells cs T fr)->T≠44->w'.heap[b]? =some (.cells cs T fr)
theorem Kt.refl (M:Nat)(w:World):Kt M w w:=⟨AH _ _,λ_ _ _ _ _ h _=>h⟩
theorem Kt.trans {M:Nat}{a b c:World}(h:Kt M a b)(k:Kt M b c):Kt M a c:=⟨h.1.trans k.1,λx cs T fr hx o m=>k.2 x cs T fr hx (h.2 x cs T fr hx o m) m⟩
theorem Kt.below {M:Nat}{w w':World}(h:Below w.heap.size w w')(o:M<=w.heap.size):Kt M w w':=⟨h.mono o,λb cs T fr _ m _=>(h.block b (dX m)).trans m⟩
theorem Kt.offM {M:Nat}{w w':World}(h:m8 M w w'):Kt M w w':=⟨⟨h.1.os,h.1.tape,h.1.output,by rw[h.2];exact AG _,λb m=>h.1.block b (by omega)⟩,λb cs T fr m o _=>(h.1.block b m).trans o⟩
theorem MsS.below {M:Nat}{o r:Value}{C:Nat}{st:Ev.Rs}{w w':World}(h:MsS M o r C st w)(m:Below w.heap.size w w')(I:M<w.heap.size):MsS M o r C st w':=by
 obtain⟨E,⟨cs,A,K⟩,J⟩:=h
 exact⟨E,⟨cs,fA A (λg G=>m.block g (fg A g G).2),K.kept (λb h=>m.block b (by have:b<M:=h;omega))⟩,(m.block M I).trans J⟩
theorem MsS.offM {M:Nat}{o r m:Value}{C:Nat}{l:List Pc}{st:Ev.Rs}{w w':World}(h:qH M w m l)(A:m8 M w w')(I:st.out=l)(G:Mb M o r m (st.fuel:Nat) (C:Nat) (erN st:Nat) (erP st) w'):MsS M o r C st w':=by
 obtain⟨cs,E,K⟩:=h
 subst I
 exact⟨m,⟨cs,fA E (λg J=>A.1.block g (by have:=(fg E g J).1;omega)),K.kept (λb h=>A.1.block b (by have:b<M:=h;omega))⟩,G⟩
theorem jL (a:Ev.Rs)(j k:Nat->Ev.Rs):(a.seq j).seq k=a.seq (λf=>(j f).seq k):=by
 cases a with
 | mk o f e=>
   cases e with
   | some x=>rfl
   | none=>
     simp only[Rs.seq]
     cases m:(j f).err with
     | some x=>simp only[Rs.seq,m]
     | none=>simp only[Rs.seq,m,List.append_assoc]
theorem eR (l:List Pc)(f:Nat)(k:Nat->Ev.Rs):(⟨l,f,none⟩:Ev.Rs).seq k=⟨l++(k f).out,(k f).fuel,(k f).err⟩:=rfl
theorem pW {a:Ev.Rs}(h:a.err≠none)(k:Nat->Ev.Rs):a.seq k=a:=by
 cases m:a.err with
 | none=>exact absurd m h
 | some x=>simp only[Rs.seq,m]
theorem qq {st:Ev.Rs}(h:st.err=none):erN st=0:=by simp[erN,h]
theorem qo {st:Ev.Rs}(r:NoZ st)(h:st.err≠none):erN st≠0:=by
 unfold erN
 cases m:st.err with
 | none=>exact absurd m h
 | some x=>
   obtain⟨n,p⟩:=x
   intro o
   dsimp only at o
   subst o
   exact r p m
def kp:Pt->Prop
 | .nil=>True
 | .cons h k e r=>(1<=h.kind/\h.kind<=5)/\kp k/\kp e/\kp r
def Sk (x:Pt):Prop:=x.sm/\kp x
def Hk (h:Hd):Prop:=h.sm/\1<=h.kind/\h.kind<=5
structure StO (n:Nat)(st:Ev.Rs):Prop where
 fuel:st.fuel<=n
 sum:st.out.length+st.fuel<=1000000
 nz:NoZ st
theorem StO.seq {n:Nat}{s:Ev.Rs}(h:StO n s){k:Nat->Ev.Rs}(r:∀f,(k f).out.length+(k f).fuel<=f)(m:∀f,NoZ (k f)):StO n (s.seq k):=by
 obtain⟨o,f,e⟩:=s
 cases e with
 | some x=>exact h
 | none=>
   rw[eR]
   have G:=r f
   have E:=h.fuel
   have A:=h.sum
   dsimp only at E A
   exact⟨by show(k f).fuel<=n;omega,by simp only[List.length_append];omega,m f⟩
def PtS (M:Nat)(r A:Value)(K:World->Prop)(D:ByteArray->Pt)(C n:Nat):Prop:=∀(h:Hd) (m o:Pt) (dot root:Va) (deep:Nat) (l:List Pc) (f:Nat) (w:World) (a1 a2 a3 a4 I J N:Option Addr) (c1 c2 c3 c4 E ck G:Nat),
 f<=n->l.length+f<=1000000->deep<=C->Hk h->Sk m->Sk o->m.cnt<=16777216->o.cnt<=16777216->M<w.heap.size->MsS M r A C ⟨l,f,none⟩ w->K w->Va.sm dot->Va.sm root->fu (·<M) w dot a1 c1 a2 c2->fu (·<M) w root a3 c3 a4 c4->
 Strs (·<M) w (.slice I h.names.length E) h.names->d8 (·<M) w (.slice J m.len ck) m->d8 (·<M) w (.slice N o.len G) o->
 Calls Tryz.prog 62 #[.pointer (some ⟨M,0,none⟩),.agg #[.int .u8 (h.kind:Nat),.int .i64 h.pos,.string h.text,.bool h.root,.slice I h.names.length E,.string h.name,.slice J m.len ck,.slice N o.len G],.agg #[.int .u8 (dot.h.kind:Nat),.bool dot.h.b,.int .i64 dot.h.n,.int .u64 (dot.h.bits:Nat),.string dot.h.text,.slice a1 dot.h.keys.length c1,.slice a2 dot.items.len c2],.agg #[.int .u8 (root.h.kind:Nat),.bool root.h.b,.int .i64 root.h.n,.int .u64 (root.h.bits:Nat),.string root.h.text,.slice a3 root.h.keys.length c3,.slice a4 root.items.len c4],.int .i64 (deep:Nat)] w
  λe w'=>e=.returned (.tuple #[])/\Kt M w w'/\MsS M r A C ((⟨l,f,none⟩:Ev.Rs).seq (evF D C n dot root deep h m o)) w'
def PsS (M:Nat)(m o:Value)(K:World->Prop)(D:ByteArray->Pt)(C n:Nat):Prop:=∀(x:Pt) (dot root:Va) (deep:Nat) (st:Ev.Rs) (w:World) (a a1 a2 a3 a4:Option Addr) (c c1 c2 c3 c4:Nat),
 StO n st->deep<=C->Sk x->x.cnt<=16777216->M<w.heap.size->MsS M m o C st w->K w->Va.sm dot->Va.sm root->fu (·<M) w dot a1 c1 a2 c2->fu (·<M) w root a3 c3 a4 c4->d8 (·<M) w (.slice a x.len c) x->
 Calls Tryz.prog 36 #[.pointer (some ⟨M,0,none⟩),.slice a x.len c,.agg #[.int .u8 (dot.h.kind:Nat),.bool dot.h.b,.int .i64 dot.h.n,.int .u64 (dot.h.bits:Nat),.string dot.h.text,.slice a1 dot.h.keys.length c1,.slice a2 dot.items.len c2],.agg #[.int .u8 (root.h.kind:Nat),.bool root.h.b,.int .i64 root.h.n,.int .u64 (root.h.bits:Nat),.string root.h.text,.slice a3 root.h.keys.length c3,.slice a4 root.items.len c4],.int .i64 (deep:Nat)] w
  λe w'=>e=.returned (.tuple #[])/\Kt M w w'/\MsS M m o C (st.seq (em (evF D C n dot root deep) x)) w'
def xT (M:Nat)(a:Option Addr)(w:World)(r:Pt)(k:Nat):Prop:=r≠.nil->∃b o,a=some ⟨b,o,none⟩/\b<M/\Row (·<M) w r b (o+k*8)
theorem qb (M:Nat)(vm vd:Value)(K:World->Prop)(hK:∀w w',Below M w w'->K w->K w')(D:ByteArray->Pt)(C n:Nat)(hp:PtS M vm vd K D C n):PsS M vm vd K D C n:=by
 intro x dot root deep st w a a1 a2 a3 a4 c c1 c2 c3 c4 av aP aw bj hM aC aD aA N au aq hx
 obtain⟨_,_,he,-,-,h3⟩:=hx
 cases he
 have HX:Hid (xT M a w x 0):=λR=>by
  obtain⟨b,o,q1,q2,q3⟩:=h3 R
  exact⟨b,o,q1,q2,by rw[Nat.zero_mul,Nat.add_zero];exact q3⟩
 have bn:=eD x
 have aU:=AF av
 have bd:Hid (∀W,Below M w W->K W):=λW h=>hK w W h aD
 have aW:=AF aw
 have HP:=AF hp
 have aX:=AF aA
 have aV:=AF N
 have aT:=AF au
 have aS:=AF aq
 have ap:Hid (Below w.heap.size w ((w.alloc (.cells #[.int .u8 (dot.h.kind:Nat),.bool dot.h.b,.int .i64 dot.h.n,.int .u64 (dot.h.bits:Nat),.string dot.h.text,.slice a1 dot.h.keys.length c1,.slice a2 dot.items.len c2] 31)).alloc (.cells #[.int .u8 (root.h.kind:Nat),.bool root.h.b,.int .i64 root.h.n,.int .u64 (root.h.bits:Nat),.string root.h.text,.slice a3 root.h.keys.length c3,.slice a4 root.items.len c4] 31))):=((AH _ w).alloc (AG _) _).alloc (by simp) _
 have HT:Hid (∀Z,((w.alloc (.cells #[.int .u8 (dot.h.kind:Nat),.bool dot.h.b,.int .i64 dot.h.n,.int .u64 (dot.h.bits:Nat),.string dot.h.text,.slice a1 dot.h.keys.length c1,.slice a2 dot.items.len c2] 31)).alloc (.cells #[.int .u8 (root.h.kind:Nat),.bool root.h.b,.int .i64 root.h.n,.int .u64 (root.h.bits:Nat),.string root.h.text,.slice a3 root.h.keys.length c3,.slice a4 root.items.len c4] 31))=Z->
  Z.heap[w.heap.size]? =some (.cells #[.int .u8 (dot.h.kind:Nat),.bool dot.h.b,.int .i64 dot.h.n,.int .u64 (dot.h.bits:Nat),.string dot.h.text,.slice a1 dot.h.keys.length c1,.slice a2 dot.items.len c2] 31 (0,0))/\Z.heap[w.heap.size+1]? =some (.cells #[.int .u8 (root.h.kind:Nat),.bool root.h.b,.int .i64 root.h.n,.int .u64 (root.h.bits:Nat),.string root.h.text,.slice a3 root.h.keys.length c3,.slice a4 root.items.len c4] 31 (0,0))):=by
  rintro Z rfl
  refine⟨(Below.heap_alloc _ _ _ (by simp)).trans (heap_alloc_new w _),?_⟩
  have:=heap_alloc_new (w.alloc (.cells #[.int .u8 (dot.h.kind:Nat),.bool dot.h.b,.int .i64 dot.h.n,.int .u64 (dot.h.bits:Nat),.string dot.h.text,.slice a1 dot.h.keys.length c1,.slice a2 dot.items.len c2] 31)) (.cells #[.int .u8 (root.h.kind:Nat),.bool root.h.b,.int .i64 root.h.n,.int .u64 (root.h.bits:Nat),.string root.h.text,.slice a3 root.h.keys.length c3,.slice a4 root.items.len c4] 31)
  rwa[show(w.alloc (.cells #[.int .u8 (dot.h.kind:Nat),.bool dot.h.b,.int .i64 dot.h.n,.int .u64 (dot.h.bits:Nat),.string dot.h.text,.slice a1 dot.h.keys.length c1,.slice a2 dot.items.len c2] 31)).heap.size=w.heap.size+1 by simp]at this
 have ad:Hid (∀W,Below w.heap.size w W->MsS M vm vd C st W):=λW Y=>aC.below Y hM
 clear aD hK av aw hp aA N au aq h3 aC
 go_enter Tryz.func36,Tryz.ntmps36
 go_upto_region 1 with(fail)
 generalize aR:World.alloc (World.alloc w _) _=Z at*
 obtain⟨hd0,aB⟩:=HT.out Z rfl
 clear aR HT
 have bh:=AF hd0
 have a7:=AF aB
 have aj:Hid (Kt M w Z):=Kt.below ap.out (Nat.le_of_lt hM)
 have bc:=AF (ad.out Z ap.out)
 have bm:=ap.out.size
 clear hd0 aB ad
 go_wp2_with fail
 go_loopw [10] (λi wr=>∃(k:Nat) (r:Pt) (s:Ev.Rs),i=.int .i64 (k:Nat)/\k+r.len=x.len/\r.cnt<=x.cnt/\Hid (StO n s)/\Hid (Sk r)/\Hid (xT M a w r k)/\Hid (Kt M Z wr)/\Hid (MsS M vm vd C s wr)/\Hid (s.seq (em (evF D C n dot root deep) r)=st.seq (em (evF D C n dot root deep) x))) (λi _=>x.len - (intOf i).toNat)
 case atStart=>exact⟨0,x,st,rfl,by omega,AG _,aU,aW,HX,Kt.refl _ _,bc,rfl⟩
 case round=>
  obtain⟨k,r,s,rfl,hk,aN,ai,a6,aZ,G,aa,al⟩:=hrel
  have bk:=G.out.1.size
  obtain⟨vo,ar,af⟩:=aa.out
  have bq:=AF ar
  have br:=AF af
  obtain⟨-,-,-,-,-,m5,-,-⟩:=af.cs
  clear ar af
  have bo:(0:Int)<=(k:Int):=by omega
  cases r with
  | nil=>
    simp only[Pt.len]at hk
    have bp:¬(k:Int)<(x.len:Int):=by omega
    have am:Hid (MsS M vm vd C (st.seq (em (evF D C n dot root deep) x)) wr):=by
     have h1:=aa.out
     have h2:=al.out
     have h3:em (evF D C n dot root deep) .nil=λf=>⟨[],f,none⟩:=rfl
     rw[h3,mB]at h2
     rw[h2]at h1
     exact h1
    clear m5
    go_wp2_with fail
    first | go_end0 | refine bodyPost_ret (results_none rfl _ _ _) rfl ?_
    exact⟨rfl,aj.out.trans G.out,am.out⟩
  | cons g m A r=>
    simp only[Pt.len]at hk
    simp only[Pt.cnt]at aN
    have bi:(k:Int)<(x.len:Int):=by omega
    cases U:s.err with
    | some q=>
      have R:s.err≠none:=by rw[U];simp
      have aO:=qo ai.out.nz R
      have h1:((erN s:Int)==0)=false:=beq_eq_false_iff_ne.2 (by omega)
      have am:Hid (MsS M vm vd C (st.seq (em (evF D C n dot root deep) x)) wr):=by
       have h1:=aa.out
       have h2:=al.out
       rw[pW R]at h2
       rw[h2]at h1
       exact h1
      clear U R aO
      go_wp2_with fail
      first | go_end0 | refine bodyPost_ret (results_none rfl _ _ _) rfl ?_
      exact⟨rfl,aj.out.trans G.out,am.out⟩
    | none=>
      have h1:erN s=0:=qq U
      rw[h1]at m5
      obtain⟨so,E,se⟩:=s
      dsimp only at U
      subst U
      obtain⟨b,o,rfl,I,O⟩:=aZ.out (by simp)
      have aY:Hid (xT M (some ⟨b,o,none⟩) w r (k+1)):=λ_=>⟨b,o,rfl,I,by have:=O.2.2.2;rwa[show o+k*8+8=o+(k+1)*8 by omega]at this⟩
      have ao:Hid (Below M w wr):=aj.out.1.trans G.out.1
      obtain⟨⟨g0,g1,g2,g3,⟨vn,g4,J⟩,g5⟩,⟨ak,ck,g6,k1,k2,k3⟩,⟨ae,ce,g7,e1,e2,e3⟩,-⟩:=Row.kept (λb I=>ao.out.block b I) _ _ _ I O
      obtain⟨⟨sg,sk,se,sr⟩,tg,tk,te,tr⟩:=a6.out
      have ay:Hk g:=⟨sg,tg⟩
      have ax:Sk m:=⟨sk,tk⟩
      have az:Sk A:=⟨se,te⟩
      have N:Sk r:=⟨sr,tr⟩
      clear sg sk se sr tg tk te tr
      have aI:=AF N
      have V:Hid ((evF D C n dot root deep g m A E).out.length+(evF D C n dot root deep g m A E).fuel<=E):=jc n dot root deep g m A E
      have a8:Hid (NoZ (evF D C n dot root deep g m A E)):=qg n dot root deep g m A E
      have ac:=ai.out.fuel
      have ab:=ai.out.sum
      dsimp only at ac ab
      have aG:M<wr.heap.size:=by omega
      obtain⟨an,cn,rfl,n1,n2,n3⟩:=id J
      have PC:Hid (∀W,W.heap=wr.heap->Below M wr W->Calls Tryz.prog 62 #[.pointer (some ⟨M,0,none⟩),.agg #[.int .u8 (g.kind:Nat),.int .i64 g.pos,.string g.text,.bool g.root,.slice an g.names.length cn,.string g.name,.slice ak m.len ck,.slice ae A.len ce],.agg #[.int .u8 (dot.h.kind:Nat),.bool dot.h.b,.int .i64 dot.h.n,.int .u64 (dot.h.bits:Nat),.string dot.h.text,.slice a1 dot.h.keys.length c1,.slice a2 dot.items.len c2],.agg #[.int .u8 (root.h.kind:Nat),.bool root.h.b,.int .i64 root.h.n,.int .u64 (root.h.bits:Nat),.string root.h.text,.slice a3 root.h.keys.length c3,.slice a4 root.items.len c4],.int .i64 (deep:Nat)] W
       λe w'=>e=.returned (.tuple #[])/\Kt M W w'/\MsS M vm vd C ((⟨so,E,none⟩:Ev.Rs).seq (evF D C n dot root deep g m A)) w'):=λW ah Y=>by
       have aQ:Below wr.heap.size wr W:=⟨Y.os,Y.tape,Y.output,by rw[ah];exact AG _,λb _=>by rw[ah]⟩
       have aF:∀b,b<M->W.heap[b]? =w.heap[b]? :=λb I=>(Y.block b I).trans (ao.out.block b I)
       exact HP.out g m A dot root deep so E W a1 a2 a3 a4 an ak ae c1 c2 c3 c4 cn ck ce ac ab aP ay ax az (by omega) (by omega) (by rw[ah];exact aG) (aa.out.below aQ aG) (bd.out W (ao.out.trans Y)) aX.out aV.out (aT.out.kept aF) (aS.out.kept aF)
        (J.kept (λb I=>Y.block b I)) (d8.kept ⟨ak,ck,rfl,k1,k2,k3⟩ (λb I=>Y.block b I)) (d8.kept ⟨ae,ce,rfl,e1,e2,e3⟩ (λb I=>Y.block b I))
      have bg:=AF (G.out.2 w.heap.size _ _ _ (by omega) bh.out (by decide))
      have aK:=AF (G.out.2 (w.heap.size+1) _ _ _ (by omega) a7.out (by decide))
      obtain⟨x0,x1,x2,x3,x4,x5,x6⟩:=fR (h:=dot.h) bg.out
      obtain⟨y0,y1,y2,y3,y4,y5,y6⟩:=fR (h:=root.h) aK.out
      have aL:=AF hk
      clear O k3 e3 n3 J ay ax az N hk
      go_upto_region 4 with(fail)
      go_still_tail 8,(by kernel_rfl)
      change wpList _ _ _ _ _ wr.drew
      have aH:=AF (PC.out wr.drew rfl ⟨rfl,rfl,rfl,AG _,λ_ _=>rfl⟩)
      have be:Hid (Kt M wr wr.drew):=⟨⟨rfl,rfl,rfl,AG _,λ_ _=>rfl⟩,λ_ _ _ _ _ h _=>h⟩
      clear x0 x1 x2 x3 x4 x5 x6 y0 y1 y2 y3 y4 y5 y6 g0 g1 g2 g3 g4 g5 g6 g7 m5 PC
      generalize wr.drew=w2 at*
      go_wp2_with fail
      refine aH.out.mono ?_
      rintro e w3 ⟨rfl,aE,ag⟩
      rw[eR]at ag
      have ba:=AF ag
      have bf:Hid (Kt M Z w3):=G.out.trans (be.out.trans aE)
      have aJ:Hid (StO n ⟨so++(evF D C n dot root deep g m A E).out,(evF D C n dot root deep g m A E).fuel,(evF D C n dot root deep g m A E).err⟩):=
       ⟨by have:=V.out;show(evF D C n dot root deep g m A E).fuel<=n;omega,by have:=V.out;simp only[List.length_append];omega,a8.out⟩
      have aM:Hid ((⟨so++(evF D C n dot root deep g m A E).out,(evF D C n dot root deep g m A E).fuel,(evF D C n dot root deep g m A E).err⟩:Ev.Rs).seq (em (evF D C n dot root deep) r)=st.seq (em (evF D C n dot root deep) x)):=by
       unfold Hid
       rw[<-al.out,←eR,jL]
       rfl
      clear aE ag aH
      go_wp2_with fail
      go_roundw
      case rel=>exact⟨k+1,r,_,by go_num,by have:=aL.out;omega,by omega,aJ,aI,aY,bf,ba,aM⟩
      case measure=>simp[intOf];have:=aL.out;omega
end Go.Proofs.YtepcpgdfbaklfaaGreatDoor
