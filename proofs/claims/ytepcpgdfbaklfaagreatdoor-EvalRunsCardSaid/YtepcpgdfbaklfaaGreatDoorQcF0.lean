/- A law on a range yG a function that gives up by a panic of its own, behind any of its rounds; the body keeps a list in blocks of its own. No condition. -/
import Derived.Test.YtepcpgdfbaklfaaGreatDoorTrpQ
import Derived.Test.YtepcpgdfbaklfaaGreatDoorQcF1
import Derived.Test.YtepcpgdfbaklfaaGreatDoorQcTp0
import Derived.Test.YtepcpgdfbaklfaaGreatDoorQcE0
set_option maxRecDepth 100000
set_option maxHeartbeats 40000000
set_option linter.unusedVariables false
set_option linter.unusedSimpArgs false
namespace Go.Proofs.YtepcpgdfbaklfaaGreatDoor
open Go Go.RowKit
variable {P:Program} {b:Frame} {n:Nat} {Q:Exit->Act->World->Prop} {a:Act} {w:World}
structure Off (S:Nat->Prop)(A B:World):Prop where
 os:B.os=A.os
 tape:B.tape=A.tape
 output:B.output=A.output
 size:A.heap.size<=B.heap.size
 block:∀b,S b->B.heap[b]? =A.heap[b]?
theorem Off.refl (S:Nat->Prop)(A:World):Off S A A:=⟨rfl,rfl,rfl,AG _,λ_ _=>rfl⟩
theorem Off.trans {S:Nat->Prop}{A B C:World}(h:Off S A B)(k:Off S B C):Off S A C:=
 ⟨k.os.trans h.os,k.tape.trans h.tape,k.output.trans h.output,Nat.le_trans h.size k.size,λb m=>(k.block b m).trans (h.block b m)⟩
theorem Off.mono {S m:Nat->Prop}{A B:World}(h:Off S A B)(o:∀b,m b->S b):Off m A B:=⟨h.os,h.tape,h.output,h.size,λb r=>h.block b (o b r)⟩
theorem Off.of_below {N:Nat}{A B:World}(h:Below N A B):Off (·<N) A B:=⟨h.os,h.tape,h.output,h.size,h.block⟩
theorem Off.below {N:Nat}{A B:World}(h:Off (·<N) A B):Below N A B:=⟨h.os,h.tape,h.output,h.size,h.block⟩
theorem Off.putObj {S:Nat->Prop}{A:World}{l:Nat}(o:Obj)(h:¬S l):Off S A (A.putObj l o):=
 ⟨rfl,rfl,rfl,by simp[World.putObj],λb m=>World.putObj_heap_other (λe=>h (by rw[<-e];exact m))⟩
structure xR (S T S':Nat->Prop)(A B:World):Prop where
 off:Off (λb=>b<A.heap.size/\¬S b) A B
 grow:∀b,S' b->S b\/T b\/A.heap.size<=b
 lt:∀b,S' b->b<B.heap.size
def pP {α:Type}(J:(Nat->Prop)->List α->World->Prop):Prop:=∀S m A B,J S m A->Off S A B->J S m B
structure oP {α:Type}(T:α->Nat->Prop)(Pr:α->World->Prop)(S:Nat->Prop)(x:α)(W:World):Prop where
 new:∀b,T x b->¬S b/\b<W.heap.size
 is:Pr x W
def zr (P:Program)(gf:Nat)(lb:Array Value){α:Type}(encs:α->Array Value)(T:α->Nat->Prop)(N:α->World->Prop)(r:List α->Prop)(K:List PanicEntry->List α->Prop)(I:Nat->Prop)(w:World):Prop:=
 ∀ (l:Nat) (J:(Nat->Prop)->List α->World->Prop) (S:Nat->Prop) (W:World),Below w.heap.size w W->(∀b,S b->b<W.heap.size)->(∀b,I b->¬S b)->pP J->
   (∀S m x A,J S m A->m.length<1000000->oP T N S x A->YieldAt Fence.wide 4 P l (encs x) A λe o=>e=.returned (.bool true)/\∃E,J E (m++[x]) o/\xR S (T x) E A o)->J S [] W->
   CallsIn Fence.wide 5 P gf (#[.func (.yield l) #[] #[]]++lb) W λe o=>∃E G,J E G o/\Off (λb=>b<W.heap.size/\¬S b) W o/\((∃v,e=.returned v/\r G)\/(∃M,e=.panicked M/\K M G))
def zW {α:Type}(T:α->Nat->Prop)(I:(Nat->Prop)->List α->World->Prop)(S:Nat->Prop)(m:List α)(x:α)(W:World):Exit->Act->World->Prop
 | .normal,_,o=>∃r,I r (m++[x]) o/\xR S (T x) r W o
 | _,_,_=>False
open Go.RowKit Go.Shelf Ev
attribute [local go_sem ↓] Go.wp_at_zero Go.wp_at_succ
abbrev vaV (x:Va)(a1:Option Addr)(c1:Nat)(a2:Option Addr)(c2:Nat):Value:=.agg #[.int .u8 (x.h.kind:Nat),.bool x.h.b,.int .i64 x.h.n,.int .u64 (x.h.bits:Nat),.string x.h.text,.slice a1 x.h.keys.length c1,.slice a2 x.items.len c2]
abbrev scV (dot root:Va)(a1 a2 a3 a4:Option Addr)(c1 c2 c3 c4:Nat):Value:=.agg #[.int .u8 (dot.h.kind:Nat),.bool dot.h.b,.int .i64 dot.h.n,.int .u64 (dot.h.bits:Nat),.string dot.h.text,.slice a1 dot.h.keys.length c1,.slice a2 dot.items.len c2,.int .u8 (root.h.kind:Nat),.bool root.h.b,.int .i64 root.h.n,.int .u64 (root.h.bits:Nat),.string root.h.text,.slice a3 root.h.keys.length c3,.slice a4 root.items.len c4]
abbrev paV (h:Hd)(E:Option Addr)(r:Nat)(G:Option Addr)(m ck:Nat)(I:Option Addr)(o A:Nat):Value:=.agg #[.int .u8 (h.kind:Nat),.int .i64 h.pos,.string h.text,.bool h.root,.slice E h.names.length r,.string h.name,.slice G m ck,.slice I o A]
def eA (dot root:Va)(a1 a2 a3 a4:Option Addr)(c1 c2 c3 c4 deep rb:Nat):Array Value:=#[.int .u8 (dot.h.kind:Nat),.bool dot.h.b,.int .i64 dot.h.n,.int .u64 (dot.h.bits:Nat),.string dot.h.text,.slice a1 dot.h.keys.length c1,.slice a2 dot.items.len c2,.int .u8 (root.h.kind:Nat),.bool root.h.b,.int .i64 root.h.n,.int .u64 (root.h.bits:Nat),.string root.h.text,.slice a3 root.h.keys.length c3,.slice a4 root.items.len c4,.int .i64 (deep:Nat),.pointer (some ⟨rb,0,none⟩)]
structure mZ (P:Nat)(dot root:Va)(a1 a2 a3 a4:Option Addr)(c1 c2 c3 c4 deep rb:Nat)(w:World):Prop where
 q0:w.cell? ⟨P,0,none⟩=some (.int .u8 (dot.h.kind:Nat))
 q1:w.cell? ⟨P,1,none⟩=some (.bool dot.h.b)
 q2:w.cell? ⟨P,2,none⟩=some (.int .i64 dot.h.n)
 q3:w.cell? ⟨P,3,none⟩=some (.int .u64 (dot.h.bits:Nat))
 q4:w.cell? ⟨P,4,none⟩=some (.string dot.h.text)
 q5:w.cell? ⟨P,5,none⟩=some (.slice a1 dot.h.keys.length c1)
 q6:w.cell? ⟨P,6,none⟩=some (.slice a2 dot.items.len c2)
 q7:w.cell? ⟨P,7,none⟩=some (.int .u8 (root.h.kind:Nat))
 q8:w.cell? ⟨P,8,none⟩=some (.bool root.h.b)
 q9:w.cell? ⟨P,9,none⟩=some (.int .i64 root.h.n)
 q10:w.cell? ⟨P,10,none⟩=some (.int .u64 (root.h.bits:Nat))
 q11:w.cell? ⟨P,11,none⟩=some (.string root.h.text)
 q12:w.cell? ⟨P,12,none⟩=some (.slice a3 root.h.keys.length c3)
 q13:w.cell? ⟨P,13,none⟩=some (.slice a4 root.items.len c4)
 q14:w.cell? ⟨P,14,none⟩=some (.int .i64 (deep:Nat))
 q15:w.cell? ⟨P,15,none⟩=some (.pointer (some ⟨rb,0,none⟩))
theorem gy {P:Nat}{dot root:Va}{a1 a2 a3 a4:Option Addr}{c1 c2 c3 c4 deep rb:Nat}{w:World}(m:w.heap[P]? =some (.cells (eA dot root a1 a2 a3 a4 c1 c2 c3 c4 deep rb) 120 (0,0))):mZ P dot root a1 a2 a3 a4 c1 c2 c3 c4 deep rb w:=
 ⟨by rw[dW m];rfl,by rw[dW m];rfl,by rw[dW m];rfl,by rw[dW m];rfl,by rw[dW m];rfl,by rw[dW m];rfl,by rw[dW m];rfl,by rw[dW m];rfl,by rw[dW m];rfl,by rw[dW m];rfl,by rw[dW m];rfl,by rw[dW m];rfl,by rw[dW m];rfl,by rw[dW m];rfl,by rw[dW m];rfl,by rw[dW m];rfl⟩
abbrev rnV (dot root:Va)(a1 a2 a3 a4:Option Addr)(c1 c2 c3 c4 deep rb:Nat):Value:=.agg (eA dot root a1 a2 a3 a4 c1 c2 c3 c4 deep rb)
def fu (ok:Nat->Prop)(w:World)(x:Va)(a1:Option Addr)(c1:Nat)(a2:Option Addr)(c2:Nat):Prop:=Strs ok w (.slice a1 x.h.keys.length c1) x.h.keys/\gb ok w (.slice a2 x.items.len c2) x.items
theorem fu.kept {ok:Nat->Prop}{w w':World}{x:Va}{a1 a2:Option Addr}{c1 c2:Nat}(h:fu ok w x a1 c1 a2 c2)(m:eL ok w w'):fu ok w' x a1 c1 a2 c2:=⟨h.1.kept m,h.2.kept m⟩
theorem fu.mono {ok ok':Nat->Prop}{w:World}{x:Va}{a1 a2:Option Addr}{c1 c2:Nat}(h:fu ok w x a1 c1 a2 c2)(m:∀b,ok b->ok' b):fu ok' w x a1 c1 a2 c2:=⟨h.1.mono m,h.2.mono m⟩
theorem fu.lt {ok:Nat->Prop}{w:World}{x:Va}{a1 a2:Option Addr}{c1 c2:Nat}(h:fu ok w x a1 c1 a2 c2):fu (λb=>ok b/\b<w.heap.size) w x a1 c1 a2 c2:=⟨h.1.lt,gb.lt h.2⟩
theorem fu.val {ok:Nat->Prop}{w:World}{x:Va}{a1 a2:Option Addr}{c1 c2:Nat}(h:fu ok w x a1 c1 a2 c2):g9 ok w (vaV x a1 c1 a2 c2) x:=⟨_,_,rfl,h.1,h.2⟩
theorem g9.vals {ok:Nat->Prop}{w:World}{v:Value}{x:Va}(h:g9 ok w v x):∃a1 c1 a2 c2,v=.agg #[.int .u8 (x.h.kind:Nat),.bool x.h.b,.int .i64 x.h.n,.int .u64 (x.h.bits:Nat),.string x.h.text,.slice a1 x.h.keys.length c1,.slice a2 x.items.len c2]/\fu ok w x a1 c1 a2 c2:=by
 obtain⟨r,A,rfl,o,m⟩:=h
 obtain⟨a1,c1,rfl⟩:=o.cases
 obtain⟨a2,c2,rfl,-⟩:=id m
 exact⟨a1,c1,a2,c2,rfl,o,m⟩
def iL (n:Nat)(p:Int):List PanicEntry:=[{v:=.iface 73 (.agg #[.int .i64 (n:Nat),.int .i64 p]),recovered:=false}]
def SgP (r:Except Nat Va)(pos:Int)(w:World)(e:Ending)(w':World):Prop:=Below w.heap.size w w'/\match r with
 | .ok x=>∃a1 c1 a2 c2,e=.returned (.agg #[.int .u8 (x.h.kind:Nat),.bool x.h.b,.int .i64 x.h.n,.int .u64 (x.h.bits:Nat),.string x.h.text,.slice a1 x.h.keys.length c1,.slice a2 x.items.len c2])/\fu (Nu w.heap.size w') w' x a1 c1 a2 c2/\Va.sm x
 | .error n=>e=.panicked (iL n pos)
theorem iw (dot root:Va)(h:Hd)(N:Va.sm dot)(M:Va.sm root)(af:h.names.length<=140737488351232)(ok:Nat->Prop)(a1 a2 a3 a4 an ak ae:Option Addr)(c1 c2 c3 c4 cn nk ck ne ce:Nat)(w:World)
 (hd:fu ok w dot a1 c1 a2 c2) (hr:fu ok w root a3 c3 a4 c4) (hn:Strs ok w (.slice an h.names.length cn) h.names):
 Calls Tryz.prog 130 #[scV dot root a1 a2 a3 a4 c1 c2 c3 c4,
  paV h an cn ak nk ck ae ne ce] w (SgP (eU h.names (if h.root then root else dot)) h.pos w):=by
 have GC:Hid (∀W,Below w.heap.size w W->Calls Tryz.prog 25 #[vaV dot a1 c1 a2 c2,vaV root a3 c3 a4 c4,.agg #[.bool h.root,.slice an h.names.length cn]] W (xY (eU h.names (if h.root then root else dot)) W)):=λW hW=>
  sY dot root h.root h.names N M af (λb=>ok b/\b<w.heap.size) _ _ _ W (hd.lt.kept (λb o=>hW.block b o.2)).val (hr.lt.kept (λb o=>hW.block b o.2)).val (hn.lt.kept (λb o=>hW.block b o.2))
 have HE:Hid (∀n,eU h.names (if h.root then root else dot)=.error n->n=200\/n=201):=λn hn=>kD _ _ _ hn
 clear hd hr hn N M
 generalize hG:eU h.names (if h.root then root else dot)=G at*
 clear hG
 unfold scV paV
 go_enter Tryz.func130,Tryz.ntmps130
 go_upto_region 1 with(fail)
 simp only[Nat.add_assoc,Nat.reduceAdd]
 go_wp2_with fail
 generalize A:World.alloc (World.alloc (World.alloc w _) _) _=W0
 obtain⟨Z,al,-,V,R⟩:=As A
 have I:=AF Z
 clear A Z
 refine(GC.out _ I.out).mono ?_
 rintro e w1 ⟨r,E⟩
 have U:=(r.block _ (by omega)).trans V
 have O:=(r.block _ (by omega)).trans R
 have aj:=AF U
 have aa:=AF O
 have ab:=AF r
 have ap:w.heap.size+3<=w1.heap.size:=by have:=r.size;omega
 clear V R U O r
 cases G with
 | error n=>
   obtain rfl:=E
   have ad:¬(n:Int)=0:=by have:=HE.out n rfl;omega
   have ac:((n:Int)==0)=false:=beq_eq_false_iff_ne.2 ad
   have ao:((n:Int)!=0)=true:=by simp only[bne,ac];rfl
   have am:¬n=0:=by omega
   have e1:w.heap.size+1<w1.heap.size:=by omega
   have p1:w1.cell? ⟨w.heap.size+1,1,none⟩=some (.int .i64 h.pos):=by rw[dW aj.out];rfl
   go_wp2_with fail
   exact⟨rfl,(I.out.trans (ab.out.mono (by omega))).alloc (by omega) _,rfl⟩
 | ok x=>
   obtain⟨v',rfl,hv,K⟩:=E
   obtain⟨b1,d1,b2,d2,rfl,J⟩:=g9.vals hv
   have ah:=AF J
   have ai:=AF K
   clear hv J K
   obtain⟨z0,z1,z2,z3,z4,z5,z6⟩:=fR (h:=rL) aa.out
   have zf:=dY aa.out
   have e1:w.heap.size+2<w1.heap.size:=by omega
   go_wp2_with fail
   have m:=AF (o7 (p:=0) (.int .u8 (x.h.kind:Nat)) (.bool x.h.b) (.int .i64 x.h.n) (.int .u64 (x.h.bits:Nat)) (.string x.h.text) (.slice b1 x.h.keys.length d1) (.slice b2 x.items.len d2) z0 z1 z2 z3 z4 z5 z6)
   simp only[Nat.zero_add]at m
   generalize A:World.setCell _ _ _=W5 at*
   clear A
   have Y:eL (Nu W0.heap.size w1) w1 (W5.alloc (.cells #[.int .u8 (x.h.kind:Nat),.bool x.h.b,.int .i64 x.h.n,.int .u64 (x.h.bits:Nat),.string x.h.text,.slice b1 x.h.keys.length d1,.slice b2 x.items.len d2] 31)):=λb o=>(Below.heap_alloc _ _ _ (by rw[m.out.size];exact o.2.1)).trans (m.out.oth b (by have:=o.1;omega))
   have ag:∀b,Nu W0.heap.size w1 b->Nu w.heap.size (W5.alloc (.cells #[.int .u8 (x.h.kind:Nat),.bool x.h.b,.int .i64 x.h.n,.int .u64 (x.h.bits:Nat),.string x.h.text,.slice b1 x.h.keys.length d1,.slice b2 x.items.len d2] 31)) b:=λb o=>⟨by have:=o.1;omega,by simp[m.out.size];have:=o.2.1;omega,o.2.2.same (Y b o)⟩
   exact⟨rfl,_,iZ rfl rfl (λj u hj=>Lib.cell?_alloc_some _ (m.out.is j u hj)),((I.out.trans (ab.out.mono (by omega))).trans (m.out.below (by omega))).alloc (by rw[m.out.size];omega) _,b1,d1,b2,d2,rfl,(ah.out.kept Y).mono ag,ai.out⟩
def kl (m f c l:Nat):Obj:=.cells #[.map (some m),.int .i64 (f:Nat),.int .i64 (c:Nat),.func (.yield l) #[] #[]] 118 (0,0)
def BuP (m c l rb:Nat)(pos:Int)(w:World):Nat->Ending->World->Prop
 | 0,e,w'=>e=.panicked (iL 202 pos)/\Below w.heap.size w w'
 | f+1,e,w'=>e=.returned (.tuple #[])/\w'.heap[rb]? =some (kl m f c l)/\Off (λb=>b<w.heap.size/\b≠rb) w w'
theorem fZ (dot root:Va)(h:Hd)(deep rb K c l f:Nat)(hf:f<=1000000)(a1 a2 a3 a4 an ak ae:Option Addr)(c1 c2 c3 c4 Y R ck U Z:Nat)(w:World)(o:w.heap[rb]? =some (kl K f c l)):
 Calls Tryz.prog 129 #[rnV dot root a1 a2 a3 a4 c1 c2 c3 c4 deep rb,paV h an Y ak R ck ae U Z] w (BuP K c l rb h.pos w f):=by
 have V:=dX o
 have HR:=AF o
 unfold rnV paV eA
 go_enter Tryz.func129,Tryz.ntmps129
 go_upto_region 1 with(fail)
 try simp only[Nat.add_assoc,Nat.reduceAdd]
 generalize I:World.alloc (World.alloc w _) _=J
 obtain⟨G,M,A,E⟩:=qx I
 have m:=AF G
 clear I G
 have r:Hid (J.heap[rb]? =some (kl K f c l)):=(m.out.block _ V).trans HR.out
 have O:J.cell? ⟨w.heap.size,15,none⟩=some (.pointer (some ⟨rb,0,none⟩)):=by rw[dW A];rfl
 have p1:J.cell? ⟨w.heap.size+1,1,none⟩=some (.int .i64 h.pos):=by rw[dW E];rfl
 have q1:J.cell? ⟨rb,1,none⟩=some (.int .i64 (f:Nat)):=by rw[dW r.out];rfl
 have qf:=dY r.out
 clear A E o
 cases f with
 | zero=>
   go_wp2_with fail
   exact⟨rfl,rfl,m.out⟩
 | succ f=>
   have W:¬((f+1:Nat):Int)=0:=by omega
   have e1:(((f+1:Nat):Int)==0)=false:=beq_eq_false_iff_ne.2 W
   have e3:IntKind.i64.wrap (((f+1:Nat):Int) - 1)=(f:Int):=by rw[IntWalk.i64_in _ ⟨by omega,by omega⟩];omega
   go_wp2_with fail
   go_end0
   refine⟨rfl,d7 (j:=1) r.out _,m.out.os,m.out.tape,m.out.output,by simp[World.setCell,M],λb N=> ?_⟩
   exact(Below.heap_setCell _ _ _ _ (by exact N.2)).trans (m.out.block b N.1)
end Go.Proofs.YtepcpgdfbaklfaaGreatDoor
