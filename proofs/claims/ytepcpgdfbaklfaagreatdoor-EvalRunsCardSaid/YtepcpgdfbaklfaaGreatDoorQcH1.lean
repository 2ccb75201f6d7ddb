/- The closure that eval.Run defers. No condition but the blocks' form in memory. -/
import Derived.Test.YtepcpgdfbaklfaaGreatDoorQcF0
import Derived.Test.YtepcpgdfbaklfaaGreatDoorQcTac2
import Derived.RecoverIn
import Derived.RangeFuncLeaves
import Derived.Test.YtepcpgdfbaklfaaGreatDoorQcG0
import Derived.Test.YtepcpgdfbaklfaaGreatDoorQcE0
import Derived.Test.YtepcpgdfbaklfaaGreatDoorTc0Q
import Derived.OwnWalkIn
set_option maxRecDepth 100000
set_option maxHeartbeats 40000000
set_option linter.unusedSimpArgs false
set_option linter.unusedVariables false
namespace Go.Proofs.YtepcpgdfbaklfaaGreatDoor
open Go.RowKit Go.Shelf Ev
attribute [local go_sem ↓] Go.wp_at_zero Go.wp_at_succ
theorem mW (v:Value)(w:World):(Instr.typeAssert (.iface 73 v) 20 73 true).run Tryz.prog w=.ok (.tuple #[v,.bool true]) w:=by
 simp[Instr.typeAssert,run_underlying Tryz.underlying73,Result.andThen,go_sem]
theorem sa (n:Nat)(r A:Addr)(w:World):
 CallsDIn Fence.wide n Tryz.prog 30 #[.pointer (some r),.pointer (some A)] .returning w λe o w'=>e=.returned (.tuple #[])/\o=.returning/\w'=w:=by
 refine callsDIn_of_wpSIn Tryz.func30 rfl trivial λG cs E=> ?_
 simp only[Tryz.ntmps30,List.size_toArray,List.length_cons,List.length_nil,Nat.reduceAdd,Nat.reduceSub,Array.replicate_succ,Array.replicate_zero,List.push_toArray,List.append_toArray,List.nil_append,List.cons_append]
 apply wpSIn_seq
 apply wpSIn_region
 simp[wpOpsSIn,go_sem,recoverD,E,Exit.thenS]
 refine wpSIn_of_wpIn rfl (wpIn_wide.2 ?_)
 generalize m:(λe I w'=>bodyPostS _ _ _ _ _ e I _ w')=Q
 have J:=AF m
 clear m
 go_wp2_with fail
 rw[<-J.out]
 refine⟨rfl,.returning,?_,.tuple #[],?_,rfl,rfl,rfl⟩
 · cases G;simp_all
 · simp[results,Tryz.results30]
def xV (m o:Nat)(n:Nat)(p:Int)(w w':World):Prop:=
 w'.heap[m]? =some (.cells #[.int .i64 (n:Nat)] 37 (0,0))/\w'.heap[o]? =some (.cells #[.int .i64 p] 3 (0,0))/\Off (λb=>b<w.heap.size/\b≠m/\b≠o) w w'
theorem qR (k m o:Nat)(r:m≠o)(I va:Value)(n:Nat)(p:Int)(w:World)(A:w.heap[m]? =some (.cells #[I] 37 (0,0)))(E:w.heap[o]? =some (.cells #[va] 3 (0,0))):
 CallsDIn Fence.wide k Tryz.prog 30 #[.pointer (some ⟨m,0,none⟩),.pointer (some ⟨o,0,none⟩)] (.panicking (iL n p)) w λe O w'=>
  e=.returned (.tuple #[])/\O=.panicking [{v:=.iface 73 (.agg #[.int .i64 (n:Nat),.int .i64 p]),recovered:=true}]/\xV m o n p w w':=by
 unfold iL
 have J:=λw=>fW (P:=Tryz.prog) w (tx:=73) (.agg #[.int .i64 (n:Nat),.int .i64 p]) Tryz.underlying20
 have M:=mW (.agg #[.int .i64 (n:Nat),.int .i64 p])
 have c0:w.cell? ⟨m,0,none⟩=some I:=by rw[dW A];rfl
 have d0:w.cell? ⟨o,0,none⟩=some va:=by rw[dW E];rfl
 have fz:=dY A
 have fe:=dY E
 have U:=dX A
 have V:=dX E
 have HT:=AF A
 have HE:=AF E
 clear A E
 refine callsDIn_of_wpSIn Tryz.func30 rfl trivial λc₀ cs G=> ?_
 simp only[Tryz.ntmps30,List.size_toArray,List.length_cons,List.length_nil,Nat.reduceAdd,Nat.reduceSub,Array.replicate_succ,Array.replicate_zero,List.push_toArray,List.append_toArray,List.nil_append,List.cons_append]
 apply wpSIn_seq
 apply wpSIn_region
 simp[wpOpsSIn,go_sem,recoverD,G,Exit.thenS]
 refine wpSIn_of_wpIn rfl (wpIn_wide.2 ?_)
 generalize N:(λe Z w'=>bodyPostS _ _ _ _ _ e Z _ w')=Q
 have HQ:=AF N
 have HU:=AF G
 clear N G
 go_wp2_with fail
 have n1:¬m=w.heap.size:=by omega
 have n2:¬o=w.heap.size:=by omega
 have R:¬o=m:=λe=>r e.symm
 go_region
 all_goals
  show Q Exit.normal _ _
  rw[<-HQ.out]
  refine⟨rfl,_,rfl,.tuple #[],by simp[results,Tryz.results30],rfl,rfl,?_,?_,⟨rfl,rfl,rfl,?_,λb K=> ?_⟩⟩
  · show(World.alloc _ _).heap[m]? =_
    rw[Below.heap_alloc _ _ _ (by simp[World.setCell];omega),Below.heap_setCell _ _ _ _ r]
    exact d7 (j:=0) HT.out _
  · show(World.alloc _ _).heap[o]? =_
    rw[Below.heap_alloc _ _ _ (by simp[World.setCell];omega)]
    exact d7 (j:=0) ((Below.heap_setCell _ _ _ _ R).trans HE.out) _
  · show w.heap.size<=(World.alloc _ _).heap.size
    simp[World.setCell]
  · obtain⟨K,Y,W⟩:=K
    show(World.alloc _ _).heap[b]? =_
    rw[Below.heap_alloc _ _ _ (by simp[World.setCell];omega),Below.heap_setCell _ _ _ _ W,Below.heap_setCell _ _ _ _ Y]
theorem iJ {F:Fence}{n:Nat}{P:Program}(w:World){G:Array Oper}{rest:List Oper}{o:Oper}{a:Act}{Q:Exit->Act->World->Prop}
 (hg:o.guard=none) (s x:Operand) (t:TypeId) (E:o.op=Op.call {callee:=Callee.builtin Builtin.append,args:=#[s,x],argTypes:=#[t,t]})
 (base:Nat) (e:TypeId) (i:TypeInfo) (z:Value) (size A:Nat) (h1:P.underlying t=some (.slice e)) (h2:P.info? e=some i) (h3:i.zero=some z) (h4:i.size=size) (h5:i.bytes=A) (h6:z.cells.size=size) (h7:0<size)
 (v:Value) (k:Nat) (M:List Value) (hs:a.eval s=v) (J:w.ownsRow base e size v k M) (U:Addr) (m c:Nat) (r:List Value) (hx:a.eval x=.slice (some U) m c) (hn:r.length=m*size)
 (hc:∀j u,r[j]? =some u->w.cell? (U.add j)=some u) (R:∀u∈r,u.oneCell'=true) (hm:0<m) (b1:k+m<=maxLen) (b2:(k+m)*A<=140737488355328) (b3:base<=w.heap.size)
 (hK:∀g cap w',w'.ownsRow base e size (.slice (some ⟨g,0,none⟩) (k+m) cap) (k+m) (M++r)->w.grownBy w' v.ownBlock->(v.ownBlock=some g\/g=w.heap.size)->g<w'.heap.size->wpListIn F n P G Q rest (a.put o.dst (.slice (some ⟨g,0,none⟩) (k+m) cap)) w'):
 wpListIn F n P G Q (o::rest) a w:=by
 refine wpListIn_plain hg λK O=> ?_
 obtain⟨g,cap,w',I,Z,Y,W,V⟩:=run_append_lies (P:=P) w t o.type base e i z size A h1 h2 h3 h4 h5 h6 h7 v k M J U m c r hn hc R hm b1 b2 b3 _ rfl
 unfold Oper.wpIn
 refine⟨?_,?_⟩
 · simp[Oper.about,E,resolve,Target.leads,Sem.run_pure]
 · rw[Oper.semAt_plain F _ _ (by rw[E];intro c N;cases N)]
   simp[execOp,E,resolve,invoke,builtin,hs,hx,I,Result.andThen]
   exact O _ _ (hK g cap w' Z Y W V)
def pcL (p:Pc)(a1:Option Addr)(c1:Nat)(a2:Option Addr)(c2:Nat):List Value:=[.int .i64 p.pos,.bool p.hole,.string p.text,.int .u8 (p.val.h.kind:Nat),.bool p.val.h.b,.int .i64 p.val.h.n,.int .u64 (p.val.h.bits:Nat),.string p.val.h.text,.slice a1 p.val.h.keys.length c1,.slice a2 p.val.items.len c2]
def fQ (ok:Nat->Prop)(w:World):List Pc->List Value->Prop
 | [],cs=>cs=[]
 | p::r,cs=>∃a1 c1 a2 c2 m,cs=pcL p a1 c1 a2 c2++m/\fu ok w p.val a1 c1 a2 c2/\fQ ok w r m
theorem fQ.kept {ok:Nat->Prop}{w w':World}(A:eL ok w w'):∀(t:List Pc) (cs:List Value),fQ ok w t cs->fQ ok w' t cs:=by
 intro t
 induction t with
 | nil=>intro cs h;exact h
 | cons p r o=>
   rintro cs ⟨a1,c1,a2,c2,m,rfl,G,E⟩
   exact⟨a1,c1,a2,c2,m,rfl,G.kept A,o _ E⟩
theorem fQ.mono {ok ok':Nat->Prop}{w:World}(A:∀b,ok b->ok' b):∀(t:List Pc) (cs:List Value),fQ ok w t cs->fQ ok' w t cs:=by
 intro t
 induction t with
 | nil=>intro cs h;exact h
 | cons p r o=>
   rintro cs ⟨a1,c1,a2,c2,m,rfl,G,E⟩
   exact⟨a1,c1,a2,c2,m,rfl,G.mono A,o _ E⟩
theorem fQ.snoc {ok:Nat->Prop}{w:World}{p:Pc}{a1 a2:Option Addr}{c1 c2:Nat}(A:fu ok w p.val a1 c1 a2 c2):∀(t:List Pc) (cs:List Value),fQ ok w t cs->fQ ok w (t++[p]) (cs++pcL p a1 c1 a2 c2):=by
 intro t
 induction t with
 | nil=>
   intro cs h
   obtain rfl:cs=[]:=h
   exact⟨a1,c1,a2,c2,[],by simp,A,rfl⟩
 | cons q r o=>
   rintro cs ⟨M,J,K,I,m,rfl,G,E⟩
   exact⟨M,J,K,I,m++pcL p a1 c1 a2 c2,by simp,G,o _ E⟩
theorem fQ.len {ok:Nat->Prop}{w:World}:∀(l:List Pc) (cs:List Value),fQ ok w l cs->cs.length=l.length*10:=by
 intro l
 induction l with
 | nil=>intro cs h;obtain rfl:cs=[]:=h;rfl
 | cons p r m=>
   rintro cs ⟨a1,c1,a2,c2,A,rfl,E,o⟩
   have:=m _ o
   simp only[pcL,List.length_append,List.length_cons,List.length_nil];omega
theorem fQ.row {ok:Nat->Prop}{w:World}:∀(l:List Pc) (cs:List Value) (b o:Nat),fQ ok w l cs->(∀j u,cs[j]? =some u->w.cell? ⟨b,o+j,none⟩=some u)->hH ok w l b o:=by
 intro l
 induction l with
 | nil=>intro cs b o _ _;exact trivial
 | cons p r J=>
   rintro cs b o ⟨a1,c1,a2,c2,A,rfl,⟨O,U,R,M,I,G,E⟩,N⟩ m
   cases M
   refine⟨⟨m 0 _ rfl,m 1 _ rfl,m 2 _ rfl⟩,⟨⟨m 3 _ rfl,m 4 _ rfl,m 5 _ rfl,m 6 _ rfl,m 7 _ rfl,_,m 8 _ rfl,O⟩,⟨a2,c2,m 9 _ rfl,I,G,E⟩,trivial⟩,J A b (o+10) N (λj u K=> ?_)⟩
   have:=m (10+j) u (by rw[List.getElem?_append_right (by simp[pcL])];simpa[pcL]using K)
   rwa[show o+(10+j)=o+10+j by omega]at this
def Sn (B:Nat)(S:Nat->Prop)(v:Value)(W:World)(b:Nat):Prop:=S b/\B<=b/\v.ownBlock≠some b/\UnF W b
structure PcI (B Bl:Nat)(S:Nat->Prop)(pre:List It)(W:World):Prop where
 cell:S Bl
 lt:∀b,S b->b<W.heap.size
 big:B<=W.heap.size
 row:∃v cs,W.heap[Bl]? =some (.cells #[v] 36 (0,0))/\W.ownsRow B 44 10 v pre.length cs/\(∀g,v.ownBlock=some g->S g)/\fQ (Sn B S v W) W (pre.map It.pc) cs
theorem PcI.lies (B R:Nat):pP (PcI B R):=by
 intro S I A C h o
 obtain⟨G,O,r,v,cs,N,M,E,K⟩:=h
 exact⟨G,λb m=>AI (O b m) o.size,Nat.le_trans r o.size,v,cs,(o.block _ G).trans N,fA M (λg J=>o.block g (E g J)),E,
  fQ.mono (λb m=>⟨m.1,m.2.1,m.2.2.1,m.2.2.2.same (o.block b m.1)⟩) _ _ (fQ.kept (λb m=>o.block b m.1) _ _ K)⟩
theorem PcI.start {B m:Nat}{W:World}(hB:B<=W.heap.size)(h:W.heap[m]? =some (.cells #[.slice none 0 0] 36 (0,0))):PcI B m (·=m) [] W:=
 ⟨rfl,λb r=>by rw[show b=m from r];exact dX h,hB,.slice none 0 0,[],h,World.ownsRow_nil _ _ _ _,(λg o=>by cases o),rfl⟩
theorem nX:(Tryz.prog.info? 44).map (λi=>(i.zero,i.size,i.bytes))=some (some (.agg #[.int .i64 0,.bool false,.string ⟨#[]⟩,.int .u8 0,.bool false,.int .i64 0,.int .u64 0,.string ⟨#[]⟩,.slice none 0 0,.slice none 0 0]),10,120):=by kernel_rfl
theorem PcI.pcs {B K:Nat}{S:Nat->Prop}{m:List It}{W:World}(h:PcI B K S m W):∃v,W.heap[K]? =some (.cells #[v] 36 (0,0))/\Pcs (λb=>S b/\Nu B W b) W v (m.map It.pc):=by
 obtain⟨h1,h2,Y,v,cs,h3,J,Z,I⟩:=h
 refine⟨v,h3,?_⟩
 have M:∀g,v.ownBlock=some g->UnF W g:=by
  intro g G
  rcases J.2 with⟨rfl,-⟩ | ⟨g',cap,aa,rfl,-,r,-⟩
  · cases G
  · obtain rfl:g'=g:=Option.some.inj G
    exact dY r
 have O:∀b,Sn B S v W b->(S b/\Nu B W b):=λb o=>⟨o.1,o.2.1,h2 b o.1,o.2.2.2⟩
 obtain⟨a,c,rfl,q1,q2,q3⟩:=fd J
 refine⟨a,c,by rw[List.length_map],by rw[List.length_map];exact q1,q2,λN=> ?_⟩
 have R:=fQ.len _ _ I
 obtain⟨g,rfl,E,A,V⟩:=q3 (by
  rintro rfl
  rw[List.length_nil]at R
  exact N (List.length_eq_zero_iff.1 (by omega)))
 exact⟨g,0,rfl,⟨Z g rfl,E,A,M g rfl⟩,fQ.row _ cs g 0 (fQ.mono O _ _ I) (λj u U=>by rw[Nat.zero_add];exact V j u U)⟩
theorem PcI.more {B E:Nat}{S:Nat->Prop}{o:List It}{x:It}{A W V U:World}(h:PcI B E S o A)(O:∀b,x.T b->¬S b/\b<A.heap.size)(hp:prP B x A)(al:E<B)(I:Below A.heap.size A W)
 (v:Value) (cs:List Value) (hv:A.heap[E]? =some (.cells #[v] 36 (0,0))) (af:A.ownsRow B 44 10 v o.length cs) (Z:fQ (Sn B S v A) A (o.map It.pc) cs) (hS:∀g,v.ownBlock=some g->S g)
 (g cap:Nat) (ho:V.ownsRow B 44 10 (.slice (some ⟨g,0,none⟩) (o.length+1) cap) (o.length+1) (cs++pcL x.pc x.a1 x.c1 x.a2 x.c2)) (hg:W.grownBy V v.ownBlock) (M:v.ownBlock=some g\/g=W.heap.size) (aj:g<V.heap.size)
 (R:U=V.setCell ⟨E,0,none⟩ (.slice (some ⟨g,0,none⟩) (o.length+1) cap)):
 ∃S',PcI B E S' (o++[x]) U/\xR S x.T S' A U:=by
 have hB:=h.big
 have ah:U.heap.size=V.heap.size:=by rw[R];simp[World.setCell]
 have ai:A.heap.size<=V.heap.size:=Nat.le_trans I.size hg.size
 have ag:=dX hv
 have J:v.ownBlock≠some E:=λe=>by have:=(fg af _ e).1;omega
 have ac:∀b,b<A.heap.size->v.ownBlock≠some b->V.heap[b]? =A.heap[b]? :=λb m hn=>(hg.block b (AI m I.size) (λe=>hn e.symm)).trans (I.block b m)
 have G:∀b,b<A.heap.size->v.ownBlock≠some b->b≠E->U.heap[b]? =A.heap[b]? :=λb m hn ae=>by rw[R,Below.heap_setCell _ _ _ _ ae];exact ac b m hn
 have Y:U.heap[E]? =some (.cells #[.slice (some ⟨g,0,none⟩) (o.length+1) cap] 36 (0,0)):=by
  rw[R];exact d7 (j:=0) ((ac E ag J).trans hv) _
 have ab:g≠E:=by
  rintro rfl
  rcases M with e | e
  · exact J e
  · have:=I.size;omega
 have ak:∀b,(S b\/x.T b)->b<A.heap.size:=λb m=>by rcases m with m | m;exact h.lt b m;exact(O b m).2
 refine⟨λb=>b<U.heap.size/\(S b\/x.T b\/A.heap.size<=b),⟨⟨by omega,.inl h.cell⟩,λb m=>m.1,by omega,.slice (some ⟨g,0,none⟩) (o.length+1) cap,cs++pcL x.pc x.a1 x.c1 x.a2 x.c2,Y,?_,?_,?_⟩,⟨⟨?_,?_,?_,by omega,?_⟩,λb m=>m.2,λb m=>m.1⟩⟩
 · rw[List.length_append,List.length_singleton]
   refine fA ho (λg' K=> ?_)
   obtain rfl:g=g':=Option.some.inj K
   rw[R,Below.heap_setCell _ _ _ _ ab]
 · intro g' K
   obtain rfl:g=g':=Option.some.inj K
   refine⟨by omega,?_⟩
   rcases M with e | e
   · exact .inl (hS _ e)
   · exact .inr (.inr (by have:=I.size;omega))
 · rw[List.map_append,List.map_singleton]
   have r:∀b,Sn B S v A b->b<A.heap.size/\b≠E:=λb m=>⟨h.lt b m.1,by have:=m.2.1;omega⟩
   have aa:∀b,b<A.heap.size->v.ownBlock≠some b->(.slice (some ⟨g,0,none⟩) (o.length+1) cap:Value).ownBlock≠some b:=λb m hn e=>by
    obtain rfl:g=b:=Option.some.inj e
    rcases M with e | e
    · exact hn e
    · have:=I.size;omega
   have N:∀b,x.T b->v.ownBlock≠some b:=λb m e=>(O b m).1 (hS _ e)
   have ad:∀b,x.T b->b≠E:=λb m e=>(O b m).1 (by rw[e];exact h.cell)
   refine fQ.snoc ?_ _ _ (fQ.mono (λb m=> ?_) _ _ (fQ.kept (λb m=>G b (r b m).1 m.2.2.1 (r b m).2) _ _ Z))
   · refine(hp.1.kept (λb m=>G b (O b m).2 (N b m) (ad b m))).mono (λb m=>⟨⟨by have:=(O b m).2;omega,.inr (.inl m)⟩,hp.2.2.2 b m,aa b (O b m).2 (N b m),(hp.2.1 b m).same (G b (O b m).2 (N b m) (ad b m))⟩)
   · exact⟨⟨by have:=(r b m).1;omega,.inl m.1⟩,m.2.1,aa b (r b m).1 m.2.2.1,m.2.2.2.same (G b (r b m).1 m.2.2.1 (r b m).2)⟩
 · rw[R];exact hg.os.trans I.os
 · rw[R];exact hg.tape.trans I.tape
 · rw[R];exact hg.output.trans I.output
 · intro b m
   exact G b m.1 (λe=>m.2 (hS _ e)) (λe=>m.2 (by rw[e];exact h.cell))
def pcA (x:It):Array Value:=#[.int .i64 x.pc.pos,.bool x.pc.hole,.string x.pc.text,.int .u8 (x.pc.val.h.kind:Nat),.bool x.pc.val.h.b,.int .i64 x.pc.val.h.n,.int .u64 (x.pc.val.h.bits:Nat),.string x.pc.val.h.text,.slice x.a1 x.pc.val.h.keys.length x.c1,.slice x.a2 x.pc.val.items.len x.c2]
def pcO (x:It):Obj:=.cells (pcA x) 44 (0,0)
structure Ay (p:Nat)(x:It)(W:World):Prop where
 q0:W.cell? ⟨p,0,none⟩=some (.int .i64 x.pc.pos)
 q1:W.cell? ⟨p,1,none⟩=some (.bool x.pc.hole)
 q2:W.cell? ⟨p,2,none⟩=some (.string x.pc.text)
 q3:W.cell? ⟨p,3,none⟩=some (.int .u8 (x.pc.val.h.kind:Nat))
 q4:W.cell? ⟨p,4,none⟩=some (.bool x.pc.val.h.b)
 q5:W.cell? ⟨p,5,none⟩=some (.int .i64 x.pc.val.h.n)
 q6:W.cell? ⟨p,6,none⟩=some (.int .u64 (x.pc.val.h.bits:Nat))
 q7:W.cell? ⟨p,7,none⟩=some (.string x.pc.val.h.text)
 q8:W.cell? ⟨p,8,none⟩=some (.slice x.a1 x.pc.val.h.keys.length x.c1)
 q9:W.cell? ⟨p,9,none⟩=some (.slice x.a2 x.pc.val.items.len x.c2)
theorem zK {p:Nat}{x:It}{W:World}(h:W.heap[p]? =some (pcO x)):Ay p x W:=
 ⟨by rw[dW h];rfl,by rw[dW h];rfl,by rw[dW h];rfl,by rw[dW h];rfl,by rw[dW h];rfl,by rw[dW h];rfl,by rw[dW h];rfl,by rw[dW h];rfl,by rw[dW h];rfl,by rw[dW h];rfl⟩
open Go Go.RowKit
variable {P:Program} {b:Frame} {n:Nat} {Q:Exit->Act->World->Prop} {a:Act} {w:World}
theorem jH.rangeV {α:Type}{g:Operand}{ps:Array Tmp}{assign body:Code}{gf:Nat}{lb:Array Value}{fn:Func}(hb:b.roundOf=none)(aI:P.funcs[b.fn]? =some fn)(hg:a.eval g=.func (.func gf) #[] lb)(eg:∀args w,(callFunc gf args).run P w=.ok (.enter gf args) w)
 {encs:α->Array Value} {T:α->Nat->Prop} {Pr:α->World->Prop} {ab:List α->Prop} {au:List PanicEntry->List α->Prop} {ar:Nat->Prop}
 (aF:zr P gf lb encs T Pr ab au ar w)
 (ap:∀x A B,Pr x A->Off (T x) A B->Pr x B) (ax:∀x,(encs x).size=ps.size)
 (I:(Nat->Prop)->List α->World->Prop) (S0:Nat->Prop) (Y:∀b,S0 b->b<w.heap.size) (O:∀b,ar b->b<w.heap.size/\¬S0 b) (hI:pP I) (aq:∀S r W,I S r W->∀b,S b->b<W.heap.size) (h0:I S0 [] w) (po:α->Obj) (a₁:α->Nat->Act)
 (M:∀(l:Nat) (x:α) (W:World) (K:Act->World->Prop),K (a₁ x W.heap.size) (W.alloc (po x))->
   assign.wpIn (Fence.wide.inRound l) 4 P (Exit.then K (λ_ _ _=>False)) {tmps:=(ps.zip (encs x)).foldl (λt (p,v)=>t.setIfInBounds p v) a.tmps,defers:=[]} W)
 (ag:∀(l:Nat) (S:Nat->Prop) (r:List α) (x:α) (p:Nat) (W:World),I S r W->r.length<1000000->oP T Pr S x W->W.heap[p]? =some (po x)->¬S p->¬T x p->body.wpIn (Fence.wide.inRound l) 4 P (zW T I S r x W) (a₁ x p) W)
 (af:∀(D:Nat) (S:Nat->Prop) (xs:List α) (W:World),w.heap.size<=D->ab xs->I S xs W->¬S D->Off (λb=>b<w.heap.size/\¬S0 b) w W->W.heap[D]? =some (.deferred (some []))->Q .normal {a with defers:={target:=.collected D,args:=#[]}::a.defers} W)
 (aj:∀(D:Nat) (S:Nat->Prop) (ch:List PanicEntry) (xs:List α) (W:World),w.heap.size<=D->au ch xs->I S xs W->¬S D->Off (λb=>b<w.heap.size/\¬S0 b) w W->W.heap[D]? =some (.deferred (some []))->Q (.panic ch) {a with defers:={target:=.collected D,args:=#[]}::a.defers} W):
 jH b P (.rangeFunc g ps assign body) Q a w:=by
 refine jH.rangeFunc (n:=5) hb hg eg ?_
 obtain⟨m,o⟩:∃m:LoopState->Loop,m=λst=>qT b a w ps assign body st:=⟨_,rfl⟩
 obtain⟨Z,N⟩:∃Z,(w.alloc (.deferred (some []))).alloc (.loop (m .ready))=Z:=⟨_,rfl⟩
 have aL:Z.heap[w.heap.size+1]? =some (.loop (m .ready)):=by
  rw[<-N];have:=World.alloc_heap_new (w.alloc (.deferred (some []))) (.loop (m .ready));rwa[World.size_alloc]at this
 have aM:Z.heap[w.heap.size]? =some (.deferred (some [])):=by
  rw[<-N];exact(Below.heap_alloc _ _ _ (by simp)).trans (World.alloc_heap_new w _)
 have ai:Below w.heap.size w Z:=by
  rw[<-N];exact((AH _ w).alloc (AG _) _).alloc (by simp) _
 have aQ:Z.heap.size=w.heap.size+2:=by rw[<-N];simp
 have aN:I S0 [] Z:=hI _ _ _ _ h0 ((Off.of_below ai).mono (λb h=>Y b h))
 have e1:(w.alloc (.deferred (some []))).alloc (.loop (qT b a w ps assign body .ready))=Z:=by rw[<-N,o]
 rw[e1]
 refine(aF (w.heap.size+1)
  (λS r W=>∃E,S=(λb=>E b\/b=w.heap.size\/b=w.heap.size+1)/\¬E w.heap.size/\¬E (w.heap.size+1)/\I E r W/\W.heap[w.heap.size+1]? =some (.loop (m .ready))/\W.heap[w.heap.size]? =some (.deferred (some [])))
  (λb=>S0 b\/b=w.heap.size\/b=w.heap.size+1) Z ai ?_ (λb R=>by rintro(h | rfl | rfl);exact(O b R).2 h;have:=(O _ R).1;omega;have:=(O _ R).1;omega) ?_ ?_ ⟨S0,rfl,λh=>by have:=Y _ h;omega,λh=>by have:=Y _ h;omega,aN,aL,aM⟩).mono ?_
 · rintro b (h | rfl | rfl)
   · have:=Y _ h;omega
   · omega
   · omega
 · rintro S r A B ⟨E,rfl,n1,n2,U,hl,hk⟩ R
   exact⟨E,rfl,n1,n2,hI _ _ _ _ U (R.mono λb h=>.inl h),(R.block _ (.inr (.inr rfl))).trans hl,(R.block _ (.inr (.inl rfl))).trans hk⟩
 · rintro S r x V ⟨E,rfl,n1,n2,U,ae,aE⟩ al J
   have hy:=run_yield (P:=P) (args:=encs x) ae (by rw[o];exact ax x)
   rw[o]at hy
   have aA:w.heap.size+1<V.heap.size:=(Array.getElem?_eq_some_iff.1 ae).1
   obtain⟨W,hW⟩:∃W,V.alloc (po x)=W:=⟨_,rfl⟩
   have aP:W.heap.size=V.heap.size+1:=by rw[<-hW];simp
   have ah:Below V.heap.size V W:=by rw[<-hW];exact(AH _ V).alloc (AG _) _
   have ac:∀(S:Nat->Prop),(∀b,S b->b<V.heap.size)->Off S V W:=λS h=>(Off.of_below ah).mono h
   have hl:=(ah.block _ aA).trans ae
   have hk:=(ah.block w.heap.size (by omega)).trans aE
   have aw:W.heap[V.heap.size]? =some (po x):=by rw[<-hW];exact World.alloc_heap_new V _
   have hx:oP T Pr (λb=>E b\/b=w.heap.size\/b=w.heap.size+1) x W:=⟨λb h=>⟨(J.new b h).1,by have:=(J.new b h).2;omega⟩,ap x _ _ J.is (ac _ λb h=>(J.new b h).2)⟩
   have ay:¬T x V.heap.size:=λh=>by have:=(J.new _ h).2;omega
   have ao:∀b,E b->b<V.heap.size:=aq _ _ _ U
   have az:¬E V.heap.size:=λh=>by have:=ao _ h;omega
   have U:=hI _ _ _ _ U (ac E ao)
   have ak:w.heap.size+1<W.heap.size:=(Array.getElem?_eq_some_iff.1 hl).1
   have an:¬T x (w.heap.size+1):=λh=>(hx.new _ h).1 (.inr (.inr rfl))
   have aK:¬T x w.heap.size:=λh=>(hx.new _ h).1 (.inr (.inl rfl))
   refine⟨b.fn,_,assign,body,hy,uF aI (M _ x V _ ?_)⟩
   rw[hW]
   refine⟨_,run_beginRound hl (by rw[o]),?_⟩
   have ad:∀(S:Nat->Prop),¬S (w.heap.size+1)->Off S W (W.putObj (w.heap.size+1) (.loop {m .ready with state:=.busy})):=λS h=>Off.putObj _ h
   have aB:(W.putObj (w.heap.size+1) (.loop {m .ready with state:=.busy})).heap[w.heap.size+1]? =some (.loop {m .ready with state:=.busy}):=World.putObj_heap_same ak
   have aD:(W.putObj (w.heap.size+1) (.loop {m .ready with state:=.busy})).heap[w.heap.size]? =some (.deferred (some [])):=(World.putObj_heap_other (by omega)).trans hk
   have G:(W.putObj (w.heap.size+1) (.loop {m .ready with state:=.busy})).heap.size=W.heap.size:=by simp[World.putObj]
   have av:oP T Pr E x (W.putObj (w.heap.size+1) (.loop {m .ready with state:=.busy})):=
    ⟨λb h=>⟨λh1=>(hx.new b h).1 (.inl h1),by rw[G];exact(hx.new b h).2⟩,ap x _ _ hx.is (ad _ an)⟩
   refine wpIn_mono (ag _ E r x V.heap.size _ (hI _ _ _ _ U (ad _ n2)) al av ((World.putObj_heap_other (by omega)).trans aw) az ay) ?_
   rintro e a3 W3 hp
   cases e with
   | normal=>
     obtain⟨S2,aG,ht⟩:=hp
     have am:=(ht.off.block (w.heap.size+1) ⟨by rw[G];exact ak,n2⟩).trans aB
     have aC:=(ht.off.block w.heap.size ⟨by rw[G];omega,n1⟩).trans aD
     have m2:¬S2 (w.heap.size+1):=λh=>by
      rcases ht.grow _ h with h | h | h
      · exact n2 h
      · exact an h
      · rw[G]at h;omega
     have m1:¬S2 w.heap.size:=λh=>by
      rcases ht.grow _ h with h | h | h
      · exact n1 h
      · exact aK h
      · rw[G]at h;omega
     have aa:w.heap.size+1<W3.heap.size:=(Array.getElem?_eq_some_iff.1 am).1
     have:=run_endRound (P:=P) none am
     refine⟨_,_,this,rfl,(λb=>S2 b\/b=w.heap.size\/b=w.heap.size+1),⟨S2,rfl,m1,m2,hI _ _ _ _ aG (Off.putObj _ m2),?_,(World.putObj_heap_other (by omega)).trans aC⟩,⟨?_,?_,?_⟩⟩
     · rw[World.putObj_heap_same aa,o]
       rfl
     · have q1:Off (λb=>b<W.heap.size/\¬(E b\/b=w.heap.size\/b=w.heap.size+1)) W (W.putObj (w.heap.size+1) (.loop {m .ready with state:=.busy})):=ad _ (λh=>h.2 (.inr (.inr rfl)))
       have q2:Off (λb=>b<W.heap.size/\¬(E b\/b=w.heap.size\/b=w.heap.size+1)) (W.putObj (w.heap.size+1) (.loop {m .ready with state:=.busy})) W3:=ht.off.mono λb h=>⟨by rw[G];exact h.1,λh1=>h.2 (.inl h1)⟩
       have q0:Off (λb=>b<V.heap.size/\¬(E b\/b=w.heap.size\/b=w.heap.size+1)) V W:=ac _ λb h=>h.1
       exact q0.trans (((q1.trans q2).trans (Off.putObj _ (λh=>h.2 (.inr (.inr rfl))))).mono λb h=>⟨by omega,h.2⟩)
     · rintro b (h | h | h)
       · rcases ht.grow _ h with h | h | h
         · exact .inl (.inl h)
         · exact .inr (.inl h)
         · rw[G]at h;exact .inr (.inr (by omega))
       · exact .inl (.inr (.inl h))
       · exact .inl (.inr (.inr h))
     · have aO:(W3.putObj (w.heap.size+1) (.loop {m .ready with state:=if(none:Option Code).isNone=true then LoopState.ready else LoopState.done,pending:=none})).heap.size=W3.heap.size:=by simp[World.putObj]
       rintro b (h | rfl | rfl)
       · have:=ht.lt b h;simp[World.putObj];exact this
       · simp[World.putObj];omega
       · simp[World.putObj];exact aa
   | panic ch=>exact hp.elim
   | exit id=>exact hp.elim
   | goto t=>exact hp.elim
   | ret=>exact hp.elim
   | outgrown=>exact hp.elim
 · rintro e W2 ⟨S',xs,⟨E,rfl,n1,n2,U,hl,hk⟩,R,hend⟩
   have hO:Off (λb=>b<w.heap.size/\¬S0 b) w W2:=((Off.of_below ai).mono λb h=>h.1).trans (R.mono λb h=>⟨by omega,by rintro(h1 | h1 | h1);exact h.2 h1;omega;omega⟩)
   rcases hend with⟨v,rfl,aH⟩ | ⟨ch,rfl,aJ⟩
   · exact⟨_,by have:=run_endLoop (P:=P) hl (by rw[o];simp);rw[o]at this;exact this,af _ E xs _ (AG _) aH (hI _ _ _ _ U (Off.putObj _ n2)) n1 (hO.trans (Off.putObj _ (by intro h;have:=h.1;omega))) ((World.putObj_heap_other (by omega)).trans hk)⟩
   · exact aj _ E ch xs _ (AG _) aJ U n1 hO hk
theorem jH.seqW {x y:Code}(h:jH b P x (Exit.then (λa w=>jH b P y Q a w) Q) a w):jH b P (.seq x y) Q a w:=by
 intro k cs
 obtain⟨e,E,A,m,o⟩:=h (.code y::k) cs
 have s:=fB (stepR_seq (P:=P) (b:=b) (a:=a) (k:=k) (cs:=cs) (w:=w) (x:=x) (y:=y))
 have ps:∀e,e≠.normal->ArrivesIn (Machine.fenced P Fence.wide) P (lone (b.atR a (.code x:: .code y::k)) cs w) b (.code y::k) cs e E A->ArrivesIn (Machine.fenced P Fence.wide) P (lone (b.atR a (.code (.seq x y)::k)) cs w) b k cs e E A:=
  λe J I=>.of_steps s (.pass (x:=.code y) rfl (λ_ _=>.inl J) I)
 cases e with
 | normal=>
   obtain⟨K,M,w₂,r,G⟩:=m k cs
   exact⟨K,M,w₂,r,.of_steps (StepsIn.trans s o) G⟩
 | exit id=>exact⟨_,_,_,m,ps _ (by simp) o⟩
 | goto l=>exact⟨_,_,_,m,ps _ (by simp) o⟩
 | ret=>exact⟨_,_,_,m,ps _ (by simp) o⟩
 | panic N=>exact⟨_,_,_,m,ps _ (by simp) o⟩
 | outgrown=>exact⟨_,_,_,m,ps _ (by simp) o⟩
theorem j7 {fn:Func}{tmps:Array Value}{R:Ending->World->Prop}{A:Fn}{cap m:Array Value}{E:List Deferred}{u:FrameMode}{f:FuncId}{args:Array Value}(G:u≠.run)
 (I:(invoke (.fn A cap) m).run P w=.ok (.enter f args) w)
 (h:CallsDIn Fence.wide (n - 1) P f args u w fun
   | .returned _,r,w'=>LeavesInM Fence.wide n P fn tmps R E (settle r) w'
   | .panicked o,r,w'=>LeavesInM Fence.wide n P fn tmps R E (raised r o) w'
   | .outgrown,_,w'=>R .outgrown w'):
 LeavesInM Fence.wide n P fn tmps R ({target:=.fn A cap,args:=m}::E) u w:=
 ⟨G,.inr ⟨λh=>by simp[Fence.wide]at h,A,cap,f,args,rfl,I,λ_ _=>trivial,h⟩⟩
theorem j5 {fn:Func}{tmps:Array Value}{R:Ending->World->Prop}{m:Array Value}{o:List Deferred}{u:FrameMode}{D:Nat}{w':World}(r:u≠.run)(A:(Instr.takeDeferred D).run P w=.ok [] w')
 (h:LeavesInM Fence.wide n P fn tmps R o u w'):LeavesInM Fence.wide n P fn tmps R ({target:=.collected D,args:=m}::o) u w:=
 ⟨r,.inl ⟨_,_,rfl,A,h⟩⟩
def vT (r:List Pc×Nat×Int)(w:World)(e:Ending)(w':World):Prop:=
 Below w.heap.size w w'/\∃a c,e=.returned (.tuple #[.slice a r.1.length c,.int .i64 (r.2.1:Nat),.int .i64 r.2.2])/\Pcs (Nu w.heap.size w') w' (.slice a r.1.length c) r.1
structure jf (L:Nat)(x y z:Value)(W:World):Prop where
 l:W.heap[L]? =some (.cells #[x] 36 (0,0))
 e:W.heap[L+1]? =some (.cells #[y] 37 (0,0))
 a:W.heap[L+2]? =some (.cells #[z] 3 (0,0))
structure zo (L:Nat)(x y z:Value)(W:World):Prop where
 l:W.cell? ⟨L,0,none⟩=some x
 e:W.cell? ⟨L+1,0,none⟩=some y
 a:W.cell? ⟨L+2,0,none⟩=some z
 fl:∀j,W.frozen? ⟨L,j,none⟩=false
 fe:∀j,W.frozen? ⟨L+1,j,none⟩=false
 fa:∀j,W.frozen? ⟨L+2,j,none⟩=false
 lt:L+2<W.heap.size
theorem jf.cells {L:Nat}{x y z:Value}{W:World}(h:jf L x y z W):zo L x y z W:=
 ⟨by rw[dW h.l];rfl,by rw[dW h.e];rfl,by rw[dW h.a];rfl,dY h.l,dY h.e,dY h.a,dX h.a⟩
theorem jf.below {L B:Nat}{x y z:Value}{W o:World}(h:jf L x y z W)(m:Below B W o)(hB:L+2<B):jf L x y z o:=
 ⟨(m.block _ (by omega)).trans h.l,(m.block _ (by omega)).trans h.e,(m.block _ hB).trans h.a⟩
theorem jf.set {L:Nat}{x y z:Value}{W:World}(h:jf L x y z W)(r o m:Value):jf L r o m (((W.setCell ⟨L,0,none⟩ r).setCell ⟨L+1,0,none⟩ o).setCell ⟨L+2,0,none⟩ m):=by
 refine⟨?_,?_,?_⟩
 · rw[Below.heap_setCell _ _ _ _ (by dsimp only;omega),Below.heap_setCell _ _ _ _ (by dsimp only;omega)]
   exact d7 (j:=0) h.l _
 · rw[Below.heap_setCell _ _ _ _ (by dsimp only;omega)]
   exact d7 (j:=0) ((Below.heap_setCell _ _ _ _ (by dsimp only;omega)).trans h.e) _
 · exact d7 (j:=0) ((Below.heap_setCell _ _ _ _ (by dsimp only;omega)).trans ((Below.heap_setCell _ _ _ _ (by dsimp only;omega)).trans h.a)) _
theorem kQ {L:Nat}(A r o:Value)(W:World):Off (λb=>b≠L/\b≠L+1/\b≠L+2) W (((W.setCell ⟨L,0,none⟩ A).setCell ⟨L+1,0,none⟩ r).setCell ⟨L+2,0,none⟩ o):=
 ⟨rfl,rfl,rfl,by simp[World.setCell],λb m=>by rw[Below.heap_setCell _ _ _ _ m.2.2,Below.heap_setCell _ _ _ _ m.2.1,Below.heap_setCell _ _ _ _ m.1]⟩
theorem i8 {W:World}{tmps:Array Value}{L:Nat}{x y z:Value}(G:tmps.getD 8 undef=.pointer (some ⟨L,0,none⟩))(E:tmps.getD 9 undef=.pointer (some ⟨L+1,0,none⟩))(A:tmps.getD 10 undef=.pointer (some ⟨L+2,0,none⟩))
 (h:jf L x y z W):(results Tryz.f12 tmps).run Tryz.prog W=.ok (.tuple #[x,y,z]) W:=by
 obtain⟨c0,c1,c2,-⟩:=h.cells
 have r:tmps[8]?.getD undef=.pointer (some ⟨L,0,none⟩):=by rw[<-G];simp
 have o:tmps[9]?.getD undef=.pointer (some ⟨L+1,0,none⟩):=by rw[<-E];simp
 have m:tmps[10]?.getD undef=.pointer (some ⟨L+2,0,none⟩):=by rw[<-A];simp
 simp[results,Tryz.results12,r,o,m,go_sem,c0,c1,c2]
def ot (L:Nat):List Deferred:=[{target:=.fn (.func 30) #[.pointer (some ⟨L+1,0,none⟩),.pointer (some ⟨L+2,0,none⟩)],args:=#[]}]
theorem pX {R:Ending->World->Prop}{tmps:Array Value}{W:World}{L:Nat}{x y z:Value}(A:tmps.getD 8 undef=.pointer (some ⟨L,0,none⟩))(r:tmps.getD 9 undef=.pointer (some ⟨L+1,0,none⟩))(m:tmps.getD 10 undef=.pointer (some ⟨L+2,0,none⟩))
 (h:jf L x y z W) (o:R (.returned (.tuple #[x,y,z])) W):LeavesInM Fence.wide 5 Tryz.prog Tryz.f12 tmps R [] .returning W:=
 ⟨_,i8 A r m h,o⟩
theorem uE {R:Ending->World->Prop}{tmps:Array Value}{W:World}{L:Nat}{x y z:Value}(E:tmps.getD 8 undef=.pointer (some ⟨L,0,none⟩))(A:tmps.getD 9 undef=.pointer (some ⟨L+1,0,none⟩))(m:tmps.getD 10 undef=.pointer (some ⟨L+2,0,none⟩))
 (h:jf L x y z W) (r:R (.returned (.tuple #[x,y,z])) W):LeavesInM Fence.wide 5 Tryz.prog Tryz.f12 tmps R (ot L) .returning W:=by
 refine j7 (f:=30) (args:=#[.pointer (some ⟨L+1,0,none⟩),.pointer (some ⟨L+2,0,none⟩)]) (by simp) (by simp[go_sem]) ?_
 refine(sa _ ⟨L+1,0,none⟩ ⟨L+2,0,none⟩ W).mono ?_
 rintro e G o ⟨rfl,rfl,rfl⟩
 exact⟨_,i8 E A m h,r⟩
theorem uD {R:Ending->World->Prop}{tmps:Array Value}{W:World}{L:Nat}{x y z:Value}(n:Nat)(p:Int)(G:tmps.getD 8 undef=.pointer (some ⟨L,0,none⟩))(E:tmps.getD 9 undef=.pointer (some ⟨L+1,0,none⟩))(o:tmps.getD 10 undef=.pointer (some ⟨L+2,0,none⟩))
 (h:jf L x y z W) (A:∀w',Off (λb=>b<W.heap.size/\b≠L+1/\b≠L+2) W w'->R (.returned (.tuple #[x,.int .i64 (n:Nat),.int .i64 p])) w'):LeavesInM Fence.wide 5 Tryz.prog Tryz.f12 tmps R (ot L) (.panicking (iL n p)) W:=by
 refine j7 (f:=30) (args:=#[.pointer (some ⟨L+1,0,none⟩),.pointer (some ⟨L+2,0,none⟩)]) (by simp[iL]) (by simp[go_sem]) ?_
 refine(qR _ (L+1) (L+2) (by omega) y z n p W h.e h.a).mono ?_
 rintro e I m ⟨rfl,rfl,c1,c2,c3⟩
 have r:=dX h.l
 exact⟨_,i8 G E o ⟨(c3.block L ⟨r,by omega,by omega⟩).trans h.l,c1,c2⟩,A m c3⟩
theorem r9 {w E W O:World}{L D n M m:Nat}{N:Option Addr}{S:Nat->Prop}{l:List Pc}{p:Int}(hL:w.heap.size<=L)(G:Below w.heap.size w E)(Y:L+2<E.heap.size)(hD:E.heap.size<=D)(K:¬S D)
 (A:Off (λb=>b<E.heap.size/\¬b=L) E W) (J:Off (λb=>b<W.heap.size/\b≠L/\b≠L+1/\b≠L+2/\b≠D) W O) (I:Pcs (λb=>S b/\Nu E.heap.size W b) W (.slice N m M) l) (V:l.length=m) {r:List Pc×Nat×Int} (U:r=(l,n,p)):
 vT r w (.returned (.tuple #[.slice N m M,.int .i64 (n:Nat),.int .i64 p])) O:=by
 subst U
 subst V
 have h3:=G.size
 have Z:=A.size
 refine⟨(((Off.of_below G).trans (A.mono λb o=>by have:b<w.heap.size:=o;exact⟨by omega,by omega⟩)).trans (J.mono λb o=>by have:b<w.heap.size:=o;exact⟨by omega,by omega,by omega,by omega,by omega⟩)).below,N,M,rfl,?_⟩
 have R:∀b,(S b/\Nu E.heap.size W b)->O.heap[b]? =W.heap[b]? :=λb o=>by
  have h1:=o.2.1
  exact J.block b ⟨o.2.2.1,by omega,by omega,by omega,λe=>K (by rw[<-e];exact o.1)⟩
 exact(I.kept R).mono λb o=>⟨by have:=o.2.1;omega,AI o.2.2.1 J.size,o.2.2.2.same (R b o)⟩
end Go.Proofs.YtepcpgdfbaklfaaGreatDoor
