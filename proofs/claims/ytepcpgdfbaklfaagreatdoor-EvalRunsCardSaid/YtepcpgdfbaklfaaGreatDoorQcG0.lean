/- A law on a region that draws its order of evaluation, inside a fence: whatever the order, what holds of what has been done holds at the end. No condition. -/
import Derived.Test.YtepcpgdfbaklfaaGreatDoorQcF0
import Derived.OrdersIn
import Derived.Test.YtepcpgdfbaklfaaGreatDoorQcTma
set_option maxRecDepth 100000
set_option maxHeartbeats 40000000
set_option linter.unusedVariables false
set_option linter.unusedSimpArgs false
namespace Go.Proofs.YtepcpgdfbaklfaaGreatDoor
open Go Go.RowKit
def unl (l:List Bool):Nat:=(l.filter λb=> !b).length
theorem rT:∀(l:List Bool) (i:Nat),l[i]? =some false->unl (l.set i true)+1=unl l
 | [],i,h=>by simp at h
 | b::l,0,h=>by
   simp at h
   subst h
   simp[unl]
 | b::l,i+1,h=>by
   have m:=rT l i (by simpa using h)
   unfold unl at m ⊢
   cases b <;> simp[List.set] <;> omega
theorem pU:∀(l:List Bool),unl l=0->∀i,i<l.length->l[i]? =some true
 | [],_,i,h=>by simp at h
 | b::l,h,i,m=>by
   cases b with
   | false=>simp[unl]at h
   | true=>
     cases i with
     | zero=>rfl
     | succ i=>simpa using pU l (by simpa[unl]using h) i (by simpa using m)
section
variable {F:Fence} {n:Nat} {P:Program} {ops:Array Oper} {Q:Exit->Act->World->Prop} {md:Region.Mode}
theorem mf {l:Array Bool}{i:Nat}(m:i<l.size)(h:l.getD i true=false):l.toList[i]? =some false:=by
 rw[Array.getElem?_toList,Array.getElem?_eq_getElem m]
 simp[Array.getD,m]at h
 rw[h]
theorem oD (r:Array Bool->Act->World->Prop)(hd:∀(i:Nat) (o:Oper),ops[i]? =some o->∀e∈o.after,e.on<i)
 (hstep:∀(m:Array Bool) (a:Act) (w:World) (i:Nat) (o:Oper),r m a w->m.size=ops.size->ops[i]? =some o->m.getD i false=false->(∀e∈o.after,Region.binds md e=true->m.getD e.on false=true)->
   (∀(j:Nat) (E:Oper),ops[j]? =some E->m.getD j false=true->∀e∈E.after,Region.binds md e=true->m.getD e.on false=true)->wpOpIn F n P ops Q i (r (m.setIfInBounds i true)) a w)
 (hend:∀(m:Array Bool) (a:Act) (w:World),r m a w->(∀i,i<ops.size->m.getD i false=true)->Q .normal a w):
 ∀ (fuel:Nat) (m:Array Bool) (a:Act) (w:World),r m a w->m.size=ops.size->unl m.toList<=fuel->
   (∀(j:Nat) (E:Oper),ops[j]? =some E->m.getD j false=true->∀e∈E.after,Region.binds md e=true->m.getD e.on false=true)->wpAnyIn F n P md ops Q fuel m a w:=by
 have A:∀(m:Array Bool),m.size=ops.size->Region.ready md ops m=[]->∀i,i<ops.size->m.getD i false=true:=by
  intro m G M i
  induction i using Nat.strongRecOn with
  | _ i W=>
    intro N
    by_cases h:m.getD i false=true
    · exact h
    · have hf:m.getD i true=false:=by
       have Z:i<m.size:=by omega
       simp[Array.getD,Z]at h ⊢
       exact h
      have hm:i∈Region.ready md ops m:=mem_ready.2 ⟨hf,ops[i],Array.getElem?_eq_getElem N,λe V _=>W e.on (hd i _ (Array.getElem?_eq_getElem N) e V) (Nat.lt_trans (hd i _ (Array.getElem?_eq_getElem N) e V) N)⟩
      rw[M]at hm
      cases hm
 intro fuel
 induction fuel with
 | zero=>
   intro m a w hI G hu K
   have hz:=pU _ (Nat.le_zero.1 hu)
   have M:Region.ready md ops m=[]:=by
    rw[List.eq_nil_iff_forall_not_mem]
    intro j U
    obtain⟨O,-⟩:=mem_ready.1 U
    by_cases I:j<m.size
    · have:=hz j (by simpa using I)
      rw[mf I O]at this
      cases this
    · simp[Array.getD,I]at O
   exact⟨M,hend m a w hI (A m G M)⟩
 | succ fuel W=>
   intro m a w hI G hu K
   refine⟨λM=>hend m a w hI (A m G M),λi N=> ?_⟩
   obtain⟨O,o,Y,h2⟩:=mem_ready.1 N
   have J:i<m.size:=by rw[G];exact(Array.getElem?_eq_some_iff.1 Y).1
   have aa:m.getD i false=false:=by simp[Array.getD,J]at O ⊢;exact O
   refine wpOpIn_mono (λa w h=>W _ a w h (by simp[G]) ?_ ?_) (hstep m a w i o hI G Y aa h2 K)
   · have:=rT m.toList i (mf J O)
     rw[Array.toList_setIfInBounds]
     omega
   · have up:∀j,m.getD j false=true->(m.setIfInBounds i true).getD j false=true:=λj U=>by
      by_cases e:i=j
      · subst e;simp[Array.getD,J]
      · simp only[Array.getD_eq_getD_getElem?,Array.getElem?_setIfInBounds,if_neg e]
        rwa[Array.getD_eq_getD_getElem?]at U
     intro j E R U e V hb
     by_cases e':j=i
     · subst e'
       obtain rfl:=Option.some.inj (Y.symm.trans R)
       exact up _ (h2 e V hb)
     · refine up _ (K j E R ?_ e V hb)
       simp only[Array.getD_eq_getD_getElem?,Array.getElem?_setIfInBounds,if_neg (λx=>e' (Eq.symm x))]at U
       rwa[Array.getD_eq_getD_getElem?]
def zU (m:Array Oper):Bool:=(List.range m.size).all λi=>((m[i]?).map λo=>o.after.all λe=>decide (e.on<i)).getD true
theorem mg (h:zU ops=true):∀(i:Nat) (o:Oper),ops[i]? =some o->∀e∈o.after,e.on<i:=by
 intro i o r e E
 have A:i<ops.size:=(Array.getElem?_eq_some_iff.1 r).1
 have m:=List.all_eq_true.1 h i (List.mem_range.2 A)
 rw[r]at m
 simp only[Option.map_some,Option.getD_some]at m
 exact of_decide_eq_true (Array.all_eq_true'.1 m e E)
theorem ep {i:Nat}{o:Oper}{v:Value}{a:Act}{w w':World}{K:Act->World->Prop}(A:ops[i]? =some o)(E:o.guard=none)(m:(execOp a.eval o).run P w=.ok (.value v) w')(G:K (a.put o.dst v) w'):wpOpIn Fence.wide n P ops Q i K a w:=by
 unfold wpOpIn
 simp only[A]
 have hw:Region.wanted o (yielded ops a.tmps)=true:=by simp[Region.wanted,E]
 rw[if_pos hw]
 refine⟨λ_ _=>trivial,?_⟩
 have r:Fence.wide.round=none:=rfl
 rw[r,Oper.semAt_none,m]
 exact G
theorem sE {i:Nat}{o:Oper}{f:FuncId}{args:Array Value}{a:Act}{w w':World}{K:Act->World->Prop}{R:Ending->World->Prop}(M:ops[i]? =some o)(N:o.guard=none)(r:(execOp a.eval o).run P w=.ok (.enter f args) w')(O:Calls P f args w' R)
 (I:∀v m,R (.returned v) m->K (a.put o.dst v) m) (J:∀A m,R (.panicked A) m->Q (.panic A) a m) (hx:∀m,¬R .outgrown m):wpOpIn Fence.wide n P ops Q i K a w:=by
 unfold wpOpIn
 simp only[M]
 have hw:Region.wanted o (yielded ops a.tmps)=true:=by simp[Region.wanted,N]
 rw[if_pos hw]
 refine⟨λ_ _=>trivial,?_⟩
 have E:Fence.wide.round=none:=rfl
 rw[E,Oper.semAt_none,r]
 refine⟨λh=>by simp[Fence.wide]at h,(callsIn_wide.2 O).mono ?_⟩
 intro e m G
 cases e with
 | returned v=>exact I v m G
 | panicked A=>exact J A m G
 | outgrown=>exact absurd G (hx m)
theorem lZ {i l:Nat}{o:Oper}{args:Array Value}{a:Act}{w w':World}{K:Act->World->Prop}{R:Ending->World->Prop}(N:ops[i]? =some o)(O:o.guard=none)(r:(execOp a.eval o).run P w=(Instr.yield l args).run P w')(U:YieldAt Fence.wide 4 P l args w' R)
 (J:∀v m,R (.returned v) m->K (a.put o.dst v) m) (M:∀G m,¬R (.panicked G) m) (hx:∀m,¬R .outgrown m):wpOpIn Fence.wide 5 P ops Q i K a w:=by
 unfold wpOpIn
 simp only[N]
 have hw:Region.wanted o (yielded ops a.tmps)=true:=by simp[Region.wanted,O]
 rw[if_pos hw]
 refine⟨λ_ _=>trivial,?_⟩
 have A:Fence.wide.round=none:=rfl
 obtain⟨fn,tmps,assign,body,I,V⟩:=U
 rw[A,Oper.semAt_none,r,I]
 refine⟨λh=>by simp[Fence.wide]at h,V.mono ?_⟩
 intro e m E
 cases e with
 | returned v=>exact J v m E
 | panicked G=>exact absurd E (M G m)
 | outgrown=>exact absurd E (hx m)
end
open Go.RowKit Go.Shelf Ev
structure It where
 pc:Pc
 a1:Option Addr
 c1:Nat
 a2:Option Addr
 c2:Nat
 T:Nat->Prop
def xA (x:It):Array Value:=#[.agg #[.int .i64 x.pc.pos,.bool x.pc.hole,.string x.pc.text,.int .u8 (x.pc.val.h.kind:Nat),.bool x.pc.val.h.b,.int .i64 x.pc.val.h.n,.int .u64 (x.pc.val.h.bits:Nat),.string x.pc.val.h.text,.slice x.a1 x.pc.val.h.keys.length x.c1,.slice x.a2 x.pc.val.items.len x.c2]]
def prP (B:Nat)(x:It)(W:World):Prop:=fu x.T W x.pc.val x.a1 x.c1 x.a2 x.c2/\(∀b,x.T b->UnF W b)/\Va.sm x.pc.val/\∀b,x.T b->B<=b
theorem wQ (N:Nat)(x:It)(A B:World)(h:prP N x A)(m:Off x.T A B):prP N x B:=⟨h.1.kept m.block,λb o=>(h.2.1 b o).same (m.block b o),h.2.2⟩
def okS (S:Nat->Prop)(rb:Nat)(W:World)(b:Nat):Prop:=b<W.heap.size/\¬S b/\b≠rb
structure Stp (rb:Nat)(S:Nat->Prop)(W:World)(S':Nat->Prop)(W':World):Prop where
 off:Off (okS S rb W) W W'
 grow:∀b,S' b->S b\/W.heap.size<=b
 lt:∀b,S' b->b<W'.heap.size
theorem Stp.ok {rb:Nat}{S A:Nat->Prop}{W r:World}(h:Stp rb S W A r):∀b,okS S rb W b->okS A rb r b:=λb m=>
 ⟨AI m.1 h.off.size,λE=>by rcases h.grow b E with o | o;exact m.2.1 o;have:=m.1;omega,m.2.2⟩
theorem Stp.kept {rb:Nat}{S o:Nat->Prop}{W m:World}(h:Stp rb S W o m):eL (okS S rb W) W m:=h.off.block
theorem Stp.trans {rb:Nat}{S r m:Nat->Prop}{A B C:World}(h:Stp rb S A r B)(k:Stp rb r B m C):Stp rb S A m C:=
 ⟨h.off.trans (k.off.mono h.ok),λb E=>by
  rcases k.grow b E with o | o
  · exact h.grow b o
  · have:=h.off.size;exact .inr (by omega),k.lt⟩
theorem Stp.below {rb:Nat}{S:Nat->Prop}{W o:World}(r:∀b,S b->b<W.heap.size)(h:Below W.heap.size W o):Stp rb S W S o:=
 ⟨(Off.of_below h).mono λb m=>m.1,λb m=>.inl m,λb m=>AI (r b m) h.size⟩
theorem Stp.vals {rb:Nat}{S o:Nat->Prop}{W m:World}{x:Va}{a1 a2:Option Addr}{c1 c2:Nat}(h:Stp rb S W o m)(r:fu (okS S rb W) W x a1 c1 a2 c2):fu (okS o rb m) m x a1 c1 a2 c2:=(r.kept h.kept).mono h.ok
theorem Stp.parts {rb:Nat}{S o:Nat->Prop}{W m:World}{x:Pt}{v:Value}(h:Stp rb S W o m)(r:d8 (okS S rb W) W v x):d8 (okS o rb m) m v x:=(r.kept h.kept).mono h.ok
theorem Stp.strs {rb:Nat}{S o:Nat->Prop}{W m:World}{x:List ByteArray}{v:Value}(h:Stp rb S W o m)(r:Strs (okS S rb W) W v x):Strs (okS o rb m) m v x:=(r.kept h.kept).mono h.ok
theorem eB {S:Nat->Prop}{W m:World}(o:∀b,S b->b<W.heap.size)(h:Below W.heap.size W m):Off S W m:=(Off.of_below h).mono o
def tX (D:ByteArray->Pt)(ok:Nat->Prop)(r:Nat)(W:World):Prop:=∃o m,W.heap[r]? =some (.map o m)/\∀n:ByteArray,
 (∃i a c,Instr.findNow .string (.string n) o.toList 0=some (some (i,.slice a (D n).len c))/\d8 ok W (.slice a (D n).len c) (D n))\/(Instr.findNow .string (.string n) o.toList 0=some none/\D n=.nil)
theorem tX.step {D:ByteArray->Pt}{ok ok':Nat->Prop}{o:Nat}{W A:World}(h:tX D ok o W)(G:A.heap[o]? =W.heap[o]?)(I:eL ok W A)(E:∀b,ok b->ok' b):tX D ok' o A:=by
 obtain⟨N,m,M,K⟩:=h
 refine⟨N,m,G.trans M,λn=> ?_⟩
 rcases K n with⟨i,a,c,r,J⟩ | r
 · exact .inl ⟨i,a,c,r,(J.kept I).mono E⟩
 · exact .inr r
theorem jI (w:World):(zeroValue 22).run Tryz.prog w=.ok (.slice none 0 0) w:=by kernel_rfl
theorem tX.look {D:ByteArray->Pt}{ok:Nat->Prop}{o:Nat}{W:World}(h:tX D ok o W)(n:ByteArray):
 ∃a c,(Instr.lookup 113 (.map (some o)) (.string n) false).run Tryz.prog W=.ok (.slice a (D n).len c) W/\d8 ok W (.slice a (D n).len c) (D n):=by
 obtain⟨G,m,E,I⟩:=h
 rcases I n with⟨i,a,c,A,r⟩ | ⟨A,r⟩
 · refine⟨a,c,?_,r⟩
   have:=ez (P:=Tryz.prog) 113 9 22 o m G n i _ false Tryz.underlying113 Tryz.underlying9 E A
   simpa using this
 · rw[r]
   refine⟨none,0,?_,d8.nil _ _⟩
   have:=fL (P:=Tryz.prog) 113 9 22 o m G n _ false Tryz.underlying113 Tryz.underlying9 E A (jI W)
   simp at this
   exact this
structure ki (D:ByteArray->Pt)(C l rb mb:Nat)(S:Nat->Prop)(f:Nat)(W:World):Prop where
 rest:W.heap[rb]? =some (kl mb f C l)
 rbS:¬S rb
 mbok:okS S rb W mb
 map:tX D (okS S rb W) mb W
 lt:∀b,S b->b<W.heap.size
 fl:f<=1000000
 cl:C<=256
 dsm:∀n,(D n).sm/\(D n).cnt<=16777216
theorem ki.step {D:ByteArray->Pt}{C l rb o f r:Nat}{S G:Nat->Prop}{W A:World}(h:ki D C l rb o S f W)(m:Stp rb S W G A)(I:A.heap[rb]? =some (kl o r C l))(J:r<=f):ki D C l rb o G r A where
 rest:=I
 rbS:=λK=>by
  rcases m.grow rb K with E | E
  · exact h.rbS E
  · have:=dX h.rest;omega
 mbok:=m.ok o h.mbok
 map:=h.map.step (m.off.block o h.mbok) m.kept m.ok
 lt:=m.lt
 fl:=Nat.le_trans J h.fl
 cl:=h.cl
 dsm:=h.dsm
theorem ki.below {D:ByteArray->Pt}{C l rb m f:Nat}{S:Nat->Prop}{W r:World}(h:ki D C l rb m S f W)(o:Below W.heap.size W r):ki D C l rb m S f r:=
 h.step (Stp.below h.lt o) ((o.block rb (dX h.rest)).trans h.rest) (AG _)
theorem ki.stp {D:ByteArray->Pt}{C l rb o f:Nat}{S:Nat->Prop}{W m:World}(h:ki D C l rb o S f W)(r:Below W.heap.size W m):Stp rb S W S m:=Stp.below h.lt r
theorem ki.new {D:ByteArray->Pt}{C l rb o f:Nat}{S:Nat->Prop}{W m:World}(h:ki D C l rb o S f W){b:Nat}(E:W.heap.size<=b)(A:b<m.heap.size):okS S rb m b:=
 ⟨A,λr=>by have:=h.lt b r;omega,λe=>by have:=dX h.rest;omega⟩
def mq (l B:Nat)(J:(Nat->Prop)->List It->World->Prop):Prop:=∀S m x o,J S m o->m.length<1000000->oP It.T (prP B) S x o->
 YieldAt Fence.wide 4 Tryz.prog l (xA x) o λe r=>e=.returned (.bool true)/\∃A,J A (m++[x]) r/\xR S x.T A o r
def EvP (C l rb G:Nat)(J:(Nat->Prop)->List It->World->Prop)(r:Ev.Rs)(S:Nat->Prop)(m:List It)(W:World)(e:Ending)(o:World):Prop:=
 ∃ E A,J E (m++A) o/\A.map It.pc=r.out/\Stp rb S W E o/\match r.err with
   | none=>e=.returned (.bool true)/\o.heap[rb]? =some (kl G r.fuel C l)
   | some (n,p)=>e=.panicked (iL n p)
theorem EvP.of_stp0 {C l rb o:Nat}{J:(Nat->Prop)->List It->World->Prop}{r:Ev.Rs}{S G:Nat->Prop}{m:List It}{W A E:World}{e:Ending}(K:Stp rb S W G A)(h:EvP C l rb o J r G m A e E):EvP C l rb o J r S m W e E:=by
 obtain⟨U,I,R,O,N,M⟩:=h
 exact⟨U,I,R,O,K.trans N,M⟩
structure Okd (S:Nat->Prop)(rb:Nat)(W:World)(dot root:Va)(a1 a2 a3 a4:Option Addr)(c1 c2 c3 c4:Nat):Prop where
 dsm:Va.sm dot
 rsm:Va.sm root
 dot:fu (okS S rb W) W dot a1 c1 a2 c2
 root:fu (okS S rb W) W root a3 c3 a4 c4
theorem Okd.step {rb:Nat}{S r:Nat->Prop}{W o:World}{dot root:Va}{a1 a2 a3 a4:Option Addr}{c1 c2 c3 c4:Nat}(h:Okd S rb W dot root a1 a2 a3 a4 c1 c2 c3 c4)(m:Stp rb S W r o):Okd r rb o dot root a1 a2 a3 a4 c1 c2 c3 c4:=
 ⟨h.dsm,h.rsm,m.vals h.dot,m.vals h.root⟩
attribute [local go_sem ↓] Go.wp_at_zero Go.wp_at_succ
def m7 (D:ByteArray->Pt)(C l rb A:Nat)(J:(Nat->Prop)->List It->World->Prop)(n:Nat):Prop:=∀(dot root:Va) (h:Hd) (o r:Pt) (deep f:Nat) (S:Nat->Prop) (m:List It) (W:World) (a1 a2 a3 a4 I K M:Option Addr) (c1 c2 c3 c4 E ck G:Nat),
 f<=n->m.length+f<=1000000->deep<=C->h.sm->o.sm->r.sm->o.cnt<=16777216->r.cnt<=16777216->ki D C l rb A S f W->J S m W->Okd S rb W dot root a1 a2 a3 a4 c1 c2 c3 c4->Strs (okS S rb W) W (.slice I h.names.length E) h.names->d8 (okS S rb W) W (.slice K o.len ck) o->d8 (okS S rb W) W (.slice M r.len G) r->
 Calls Tryz.prog 91 #[rnV dot root a1 a2 a3 a4 c1 c2 c3 c4 deep rb,paV h I E K o.len ck M r.len G] W (EvP C l rb A J (evF D C n dot root deep h o r f) S m W)
def gw (D:ByteArray->Pt)(C l rb o:Nat)(J:(Nat->Prop)->List It->World->Prop)(n:Nat):Prop:=∀(dot root:Va) (x:Pt) (deep f:Nat) (S:Nat->Prop) (m:List It) (W:World) (a1 a2 a3 a4 r:Option Addr) (c1 c2 c3 c4 cx:Nat),
 f<=n->m.length+f<=1000000->deep<=C->x.sm->x.cnt<=16777216->ki D C l rb o S f W->J S m W->Okd S rb W dot root a1 a2 a3 a4 c1 c2 c3 c4->d8 (okS S rb W) W (.slice r x.len cx) x->
 Calls Tryz.prog 52 #[rnV dot root a1 a2 a3 a4 c1 c2 c3 c4 deep rb,.slice r x.len cx] W (EvP C l rb o J (em (evF D C n dot root deep) x f) S m W)
def xS (ok:Nat->Prop)(a:Option Addr)(w:World)(r:Pt)(k:Nat):Prop:=r≠.nil->∃b o,a=some ⟨b,o,none⟩/\ok b/\Row ok w r b (o+k*8)
theorem qs {f:Nat}{a:Ev.Rs}{k:Nat->Ev.Rs}(h:a.out.length+a.fuel<=f)(o:∀g,g<=f->(k g).out.length+(k g).fuel<=g):(a.seq k).out.length+(a.seq k).fuel<=f:=by
 cases m:a.err with
 | some x=>simp only[Ev.Rs.seq,m];exact h
 | none=>
   simp only[Ev.Rs.seq,m,List.length_append]
   have:=o a.fuel (by omega)
   omega
theorem gK {one:Hd->Pt->Pt->Nat->Ev.Rs}{F:Nat}(h:∀x k e f,f<=F->(one x k e f).out.length+(one x k e f).fuel<=f):∀l f,f<=F->(em one l f).out.length+(em one l f).fuel<=f
 | .nil,f,_=>by simp[em]
 | .cons x k e r,f,m=>qs (h x k e f m) λg o=>gK h r g (Nat.le_trans o m)
theorem mi {pos:Int}{go:Va->Nat->Ev.Rs}{F:Nat}(h:∀x f,f<=F->(go x f).out.length+(go x f).fuel<=f):∀l f,f<=F->(eM pos go l f).out.length+(eM pos go l f).fuel<=f
 | .nil,f,_=>by simp[eM]
 | .cons x i r,f,o=>by
   refine qs ?_ λg m=>mi h r g (Nat.le_trans m o)
   cases f with
   | zero=>simp[iu]
   | succ f=>exact Nat.le_trans (h _ f (by omega)) (by omega)
theorem jc {D:ByteArray->Pt}{C:Nat}:∀n dot root deep h k e f,(evF D C n dot root deep h k e f).out.length+(evF D C n dot root deep h k e f).fuel<=f
 | 0,_,_,_,_,_,_,f=>by simp[evF]
 | n+1,dot,root,deep,h,k,e,f=>by
   cases f with
   | zero=>simp[evF,iu]
   | succ f=>
     simp only[evF,iu]
     have m:∀dot root deep l f,(em (evF D C n dot root deep) l f).out.length+(em (evF D C n dot root deep) l f).fuel<=f:=λdot root deep l f=>
      gK (F:=f) (λx k e f _=>jc n dot root deep x k e f) l f (AG _)
     split
     · simp;omega
     · split
       · simp
       · split
         · simp;omega
         · split
           · exact Nat.le_trans (m _ _ _ _ _) (by omega)
           · split
             · split
               · split
                 · exact Nat.le_trans (m _ _ _ _ _) (by omega)
                 · exact Nat.le_trans (mi (F:=f) (λx g _=>m _ _ _ _ _) _ f (AG _)) (by omega)
               · simp
             · split
               · simp
               · exact Nat.le_trans (m _ _ _ _ _) (by omega)
theorem xh {one:Hd->Pt->Pt->Nat->Ev.Rs}{o m:List Pc}{f A:Nat}{h:Hd}{k e r:Pt}(E:one h k e f=⟨m,A,none⟩):(⟨o,f,none⟩:Ev.Rs).seq (em one (.cons h k e r))=(⟨o++m,A,none⟩:Ev.Rs).seq (em one r):=by
 simp only[em,Ev.Rs.seq,E,List.append_assoc]
theorem sM {one:Hd->Pt->Pt->Nat->Ev.Rs}{o m:List Pc}{f A:Nat}{h:Hd}{k e r:Pt}{q:Nat×Int}(E:one h k e f=⟨m,A,some q⟩):(⟨o,f,none⟩:Ev.Rs).seq (em one (.cons h k e r))=⟨o++m,A,some q⟩:=by
 simp only[em,Ev.Rs.seq,E]
theorem jp (D:ByteArray->Pt)(C l rb mb:Nat)(J:(Nat->Prop)->List It->World->Prop)(HJ:pP J)(n:Nat)(hp:m7 D C l rb mb J n):gw D C l rb mb J n:=by
 intro dot root x deep f S Y W a1 a2 a3 a4 ax c1 c2 c3 c4 cx az bf aB ao be ac hJ ay hx
 have m:=AF ac
 have aP:=AF hJ
 have ai:=AF ay
 have aF:=AF hx
 have HP:=AF hp
 have aQ:=AF HJ
 have aY:=AF ao
 have ba:=AF az
 have bc:=AF aB
 have bi:=eD x
 clear ac hJ ay hx hp HJ ao az aB
 unfold rnV eA
 go_enter Tryz.func52,Tryz.ntmps52
 go_wp2_with fail
 generalize aD:World.alloc W _=V
 obtain⟨aa,aS,aw⟩:=ue aD
 have K:=m.out.stp aa
 have ah:=AF K
 have aL:=AF (ai.out.step K)
 have G:=AF (m.out.below aa)
 have a8:=AF (aQ.out _ _ _ _ aP.out (eB m.out.lt aa))
 have a6:=AF aw
 have aM:Hid (okS S rb V W.heap.size):=m.out.new (AG _) (by omega)
 have aW:Hid (xS (okS S rb V) ax V x 0):=by
  intro aT
  obtain⟨a',c',hv,-,-,h3⟩:=K.parts aF.out
  cases hv
  obtain⟨b,o,h4,h5,h6⟩:=h3 aT
  exact⟨b,o,h4,h5,by rw[Nat.zero_mul,Nat.add_zero];exact h6⟩
 clear aD aa K aw aS m aP ai aF
 go_loopw [9] (λi wr=>∃(k N:Nat) (r:Pt) (S':Nat->Prop) (M:List It),i=.int .i64 (k:Nat)/\k+r.len=x.len/\N<=f/\M.length+N<=f/\Hid (J S' (Y++M) wr)/\Hid (Stp rb S V S' wr)/\Hid (wr.heap[rb]? =some (kl mb N C l))/\
  Hid (em (evF D C n dot root deep) x f=(⟨M.map It.pc,N,none⟩:Ev.Rs).seq (em (evF D C n dot root deep) r))/\Hid (xS (okS S rb V) ax V r k)/\Hid r.sm/\r.cnt<=x.cnt) (λi _=>x.len - (intOf i).toNat)
 case atStart=>exact⟨0,f,x,S,[],rfl,by omega,AG _,by simp,by rw[List.append_nil];exact a8,Stp.below G.out.lt (AH _ _),G.out.rest,by unfold Hid;rw[List.map_nil,sH],aW,aY,AG _⟩
 case round=>
  obtain⟨k,N,r,S',M,rfl,hk,aA,bh,aO,E,aJ,al,HR,aX,aV⟩:=hrel
  cases r with
  | nil=>
    simp only[Pt.len]at hk
    have bm:¬(k:Int)<(x.len:Int):=by omega
    have aK:Hid (em (evF D C n dot root deep) x f=⟨M.map It.pc,N,none⟩):=by unfold Hid;rw[al.out];simp[em,Ev.Rs.seq]
    go_wp2_with fail
    go_ret
    rw[aK.out]
    exact⟨S',M,aO.out,rfl,ah.out.trans E.out,rfl,aJ.out⟩
  | cons h kd el r=>
    simp only[Pt.len]at hk
    simp only[Pt.cnt]at aV
    have bd:(k:Int)<(x.len:Int):=by omega
    have bk:(0:Int)<=(k:Int):=by omega
    obtain⟨b,o,rfl,hb,ad⟩:=HR.out (by simp)
    obtain⟨aq,ap,ar,am⟩:=aX.out
    have aZ:Hid (xS (okS S rb V) (some ⟨b,o,none⟩) V r (k+1)):=λ_=>⟨b,o,rfl,hb,by have:=ad.2.2.2;rwa[show o+k*8+8=o+(k+1)*8 by omega]at this⟩
    have aG:=AF am
    obtain⟨⟨g0,g1,g2,g3,⟨vn,g4,O⟩,g5⟩,⟨ak,ck,g6,k1,k2,k3⟩,⟨ae,ce,g7,e1,e2,e3⟩,-⟩:=ad
    obtain⟨an,cn,rfl⟩:=O.cases
    have aC:=E.out.off.block b hb
    have bo:b<wr.heap.size:=(E.out.ok b hb).1
    have cc:∀j y,V.cell? ⟨b,o+k*8+j,none⟩=some y->wr.cell? ⟨b,o+k*8+j,none⟩=some y:=λj y hy=>(World.cell?_of_block (w:=V) aC).trans hy
    have p0:=cc 0 _ g0
    have p1:=cc 1 _ g1
    have p2:=cc 2 _ g2
    have p3:=cc 3 _ g3
    have p4:=cc 4 _ g4
    have p5:=cc 5 _ g5
    have p6:=cc 6 _ g6
    have p7:=cc 7 _ g7
    rw[Nat.add_zero]at p0
    have av:=(E.out.off.block _ aM.out).trans a6.out
    have bg:W.heap.size<wr.heap.size:=(E.out.ok _ aM.out).1
    obtain⟨q0,q1,q2,q3,q4,q5,q6,q7,q8,q9,q10,q11,q12,q13,q14,q15⟩:=(gy av:mZ _ dot root a1 a2 a3 a4 c1 c2 c3 c4 deep rb _)
    have A:=AF (G.out.step E.out aJ.out aA)
    have KC:Hid (∀W',Below wr.heap.size wr W'->Calls Tryz.prog 91 #[rnV dot root a1 a2 a3 a4 c1 c2 c3 c4 deep rb,paV h an cn ak kd.len ck ae el.len ce] W' (EvP C l rb mb J (evF D C n dot root deep h kd el N) S' (Y++M) W')):=by
     intro W' hA
     have Z:=E.out.trans (A.out.stp hA)
     exact HP.out dot root h kd el deep N S' (Y++M) W' a1 a2 a3 a4 an ak ae c1 c2 c3 c4 cn ck ce (Nat.le_trans aA ba.out) (by rw[List.length_append];omega) bc.out aq ap ar (by omega) (by omega) (A.out.below hA) (aQ.out _ _ _ _ aO.out (eB A.out.lt hA)) (aL.out.step Z) (Z.strs O) (Z.parts ⟨ak,ck,rfl,k1,k2,k3⟩) (Z.parts ⟨ae,ce,rfl,e1,e2,e3⟩)
    have aN:=AF hk
    have bj:k+1+r.len<=x.len:=by omega
    have aU:=mK (D:=D) (C:=C) n dot root deep h kd el N
    have R:=jc (D:=D) (C:=C) n dot root deep h kd el N
    clear cc av aC g0 g1 g2 g3 g4 g5 g6 g7 k3 e3 O aq ap ar am hk
    obtain⟨ro,aj⟩:∃ro,evF D C n dot root deep h kd el N=ro:=⟨_,rfl⟩
    rw[aj]at KC aU R
    obtain⟨ro,rf,re⟩:=ro
    have bn:ro.length+rf<=N:=R
    clear R
    have aH:=AF aj
    clear aj
    go_wp2_with fail
    refine(KC.out _ ((AH _ wr).alloc (AG _) _)).mono ?_
    rintro e w3 ⟨S3,ys,aE,af,ab,hend⟩
    have aR:=AF aE
    have I:=AF af
    have ag:=AF (E.out.trans ((A.out.stp ((AH _ wr).alloc (AG _) _)).trans ab))
    clear aE af ab KC p0 p1 p2 p3 p4 p5 p6 p7 q0 q1 q2 q3 q4 q5 q6 q7 q8 q9 q10 q11 q12 q13 q14 q15
    cases re with
    | none=>
      obtain⟨rfl,au⟩:=hend
      have aI:=AF au
      have U:Hid (em (evF D C n dot root deep) x f=(⟨(M++ys).map It.pc,rf,none⟩:Ev.Rs).seq (em (evF D C n dot root deep) r)):=by
       unfold Hid
       rw[al.out,xh aH.out,List.map_append,I.out]
      have a7:Hid (J S3 (Y++(M++ys)) w3):=by unfold Hid;rw[<-List.append_assoc];exact aR.out
      clear au
      go_wp2_with fail
      go_roundw
      case rel=>exact⟨k+1,rf,r,S3,M++ys,by go_num,by have:=aN.out;omega,by omega,by have h5:=congrArg List.length I.out;rw[List.length_map]at h5;rw[List.length_append];omega,a7,ag,aI,U,aZ,aG,by omega⟩
      case measure=>simp[intOf];have:=aN.out;omega
    | some q=>
      obtain⟨qn,qp⟩:=q
      obtain rfl:=hend
      have U:Hid (em (evF D C n dot root deep) x f=⟨M.map It.pc++ro,rf,some (qn,qp)⟩):=by unfold Hid;rw[al.out,sM aH.out]
      go_wp2_with fail
      rw[U.out]
      exact⟨rfl,S3,M++ys,by rw[<-List.append_assoc];exact aR.out,by rw[List.map_append,I.out],ah.out.trans ag.out,rfl⟩
end Go.Proofs.YtepcpgdfbaklfaaGreatDoor
