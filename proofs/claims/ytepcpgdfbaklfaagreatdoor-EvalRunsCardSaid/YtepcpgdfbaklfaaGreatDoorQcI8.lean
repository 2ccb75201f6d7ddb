/- append of a whole list, again and again; the lists of parts and of pieces that this makes. No condition but the sizes. -/
import Derived.Test.YtepcpgdfbaklfaaGreatDoorQcH8
import Derived.Test.YtepcpgdfbaklfaaGreatDoorQcI4
import Derived.Test.YtepcpgdfbaklfaaGreatDoorQcH1
import Derived.Test.YtepcpgdfbaklfaaGreatDoorTc0Q
import Derived.Test.YtepcpgdfbaklfaaGreatDoorQcF0
import Derived.Test.YtepcpgdfbaklfaaGreatDoorQcF1
set_option maxRecDepth 100000
set_option maxHeartbeats 40000000
set_option linter.unusedSimpArgs false
set_option linter.unusedVariables false
namespace Go.Proofs.YtepcpgdfbaklfaaGreatDoor
open Go.RowKit Go.Shelf Ev
theorem o8 (T e:TypeId)(i:TypeInfo)(z:Value)(size A:Nat)(ht:Tryz.prog.underlying T=some (.slice e))(hi:Tryz.prog.info? e=some i)(hz:i.zero=some z)(I:i.size=size)(W:i.bytes=A)(U:z.cells.size=size)(K:0<size)(w:World)(R:TypeId)
 (base:Nat) (v:Value) (n:Nat) (N:List Value) (E:w.ownsRow base e size v n N) (Z:Option Addr) (m c:Nat) (cs:List Value) (hl:cs.length=m*size) (hc:∀(j:Nat) u,cs[j]? =some u->∃b o,Z=some ⟨b,o,none⟩/\w.cell? ⟨b,o+j,none⟩=some u) (h1:∀u∈cs,u.oneCell'=true)
 (Y:n+m<=maxLen) (G:(n+m)*A<=140737488355328) (J:base<=w.heap.size):
 ∃O w',(Builtin.append_ #[T,T] R #[v,.slice Z m c]).run Tryz.prog w=.ok O w'/\w'.ownsRow base e size O (n+m) (N++cs)/\w.grownBy w' v.ownBlock:=by
 cases Z with
 | none=>
   have M:cs=[]:=by
    cases cs with
    | nil=>rfl
    | cons u r=>obtain⟨b,o,h,-⟩:=hc 0 u rfl;cases h
   subst M
   have hm:m=0:=by
    rcases Nat.eq_zero_or_pos m with h | h
    · exact h
    · have:=Nat.mul_pos h K;simp at hl;omega
   subst hm
   exact⟨v,w,ie base T R e i size ht hi c v n N E,by rw[Nat.add_zero,List.append_nil];exact E,World.grownBy.refl w _⟩
 | some a=>
   obtain⟨O,w',q1,q2,q3,-⟩:=run_append_own w base T R e i z size A ht hi hz I W U K v n N E a m c cs hl (λj u hj=>by
    obtain⟨b,o,he,V⟩:=hc j u hj
    cases he
    rw[lD]
    exact V) h1 Y G J
   exact⟨O,w',q1,q2,q3⟩
theorem pV {r:Array Oper}{o:Oper}{a:Act}{w:World}{K:Act->World->Prop}{Q:Exit->Act->World->Prop}{E:Prop}(G:o.guard=none)(s x:Operand)(T:TypeId)
 (O:o.op=.call {callee:=.builtin .append,args:=#[s,x],argTypes:=#[T,T]})
 (v I:Value) (M:a.eval s=v) (hx:a.eval x=I) (R:Value->World->Prop) (N:∀J,∃m w',(Builtin.append_ #[T,T] J #[v,I]).run Tryz.prog w=.ok m w'/\R m w')
 (H:∀m w',R m w'->K (a.put o.dst m) w'):
 if Region.wanted o (yielded r a.tmps)=true then Oper.wp Tryz.prog o a w K Q else E:=by
 have hw:Region.wanted o (yielded r a.tmps)=true:=by simp[Region.wanted,G]
 rw[if_pos hw]
 obtain⟨m,w',A,U⟩:=N o.type
 unfold Oper.wp execOp
 simp only[O,resolve,invoke,builtin,Sem.run_bind,Sem.run_pure,Result.andThen_ok,List.map_toArray,List.map_cons,List.map_nil,M,hx,A]
 exact H m w' U
theorem wX {B r n:Nat}{e:TypeId}{w:World}{v:Value}{o:List Value}(h:w.ownsRow B e r v n o):∃a m c,v=.slice a m c:=by
 obtain⟨a,c,rfl,-⟩:=fd h
 exact⟨a,n,c,rfl⟩
theorem Row.cellsC {ok:Nat->Prop}{w:World}:∀(t:Pt) (b o:Nat),Row ok w t b o->∃cs:List Value,cs.length=t.len*8/\(∀(j:Nat) u,cs[j]? =some u->w.cell? ⟨b,o+j,none⟩=some u)/\iI ok w t cs/\∀u∈cs,u.oneCell'=true:=by
 intro t
 induction t with
 | nil=>intro b o _;exact⟨[],rfl,λj u h=>by simp at h,rfl,λu h=>by cases h⟩
 | cons h k e r _ _ U=>
   rintro b o ⟨⟨c0,c1,c2,c3,⟨v,c4,I⟩,c5⟩,⟨K,ck,c6,R,O,N⟩,⟨M,J,c7,e1,e2,e3⟩,A⟩
   obtain⟨cs,Z,Y,W,V⟩:=U b (o+8) A
   obtain⟨an,cn,rfl⟩:=I.cases
   refine⟨ey h (.slice an h.names.length cn) (.slice K k.len ck) (.slice M e.len J)++cs,by simp[Pt.len,Z,ey];omega,λj u m=> ?_,⟨_,_,_,cs,rfl,I,⟨K,ck,rfl,R,O,N⟩,⟨M,J,rfl,e1,e2,e3⟩,W⟩,λu E=> ?_⟩
   · by_cases G:j<8
     · match j,G with
       | 0,_=>simp[ey]at m;subst m;exact c0
       | 1,_=>simp[ey]at m;subst m;exact c1
       | 2,_=>simp[ey]at m;subst m;exact c2
       | 3,_=>simp[ey]at m;subst m;exact c3
       | 4,_=>simp[ey]at m;subst m;exact c4
       | 5,_=>simp[ey]at m;subst m;exact c5
       | 6,_=>simp[ey]at m;subst m;exact c6
       | 7,_=>simp[ey]at m;subst m;exact c7
     · rw[List.getElem?_append_right (by simp[ey];omega)]at m
       have:=Y _ u m
       simp only[ey,List.length_cons,List.length_nil]at this
       rwa[show o+8+(j - (0+1+1+1+1+1+1+1+1))=o+j by omega]at this
   · simp only[ey,List.mem_append,List.mem_cons,List.not_mem_nil,or_false]at E
     rcases E with(rfl | rfl | rfl | rfl | rfl | rfl | rfl | rfl) | E
     all_goals first | rfl | exact V u E
theorem d8.cells {ok:Nat->Prop}{w:World}{E:Option Addr}{m c:Nat}{t:Pt}(h:d8 ok w (.slice E m c) t):m=t.len/\∃cs:List Value,cs.length=m*8/\(∀(j:Nat) u,cs[j]? =some u->∃b o,E=some ⟨b,o,none⟩/\b<w.heap.size/\w.cell? ⟨b,o+j,none⟩=some u)/\iI ok w t cs/\∀u∈cs,u.oneCell'=true:=by
 obtain⟨R,O,I,N,M,J⟩:=h
 cases I
 refine⟨rfl,?_⟩
 cases t with
 | nil=>exact⟨[],rfl,λj u h=>by simp at h,rfl,λu h=>by cases h⟩
 | cons K k e r=>
   obtain⟨b,o,rfl,-,A⟩:=J (by simp)
   obtain⟨cs,q1,q2,q3,q4⟩:=Row.cellsC _ _ _ A
   exact⟨cs,q1,λj u G=>⟨b,o,rfl,ej A.1.1,q2 j u G⟩,q3,q4⟩
theorem hH.move {ok ok':Nat->Prop}{w w':World}(I:∀b,ok b->ok' b/\w'.heap[b]? =w.heap[b]?):∀(l:List Pc) (b o G m:Nat),(∀j,j<l.length*10->w'.cell? ⟨G,m+j,none⟩=w.cell? ⟨b,o+j,none⟩)->hH ok w l b o->hH ok' w' l G m:=by
 intro l
 induction l with
 | nil=>intro b o G m _ _;exact trivial
 | cons p r K=>
   rintro b o G m E ⟨⟨c0,c1,c2⟩,hx,A⟩
   simp only[List.length_cons]at E
   refine⟨⟨(E 0 (by omega)).trans c0,(E 1 (by omega)).trans c1,(E 2 (by omega)).trans c2⟩,fF.move I _ b (o+3) G (m+3) (λj J=> ?_) hx,K b (o+10) G (m+10) (λj J=> ?_) A⟩
   · simp only[Vl.len]at J
     rw[show m+3+j=m+(3+j) by omega,show o+3+j=o+(3+j) by omega]
     exact E (3+j) (by omega)
   · rw[show m+10+j=m+(10+j) by omega,show o+10+j=o+(10+j) by omega]
     exact E (10+j) (by omega)
theorem hH.append {ok:Nat->Prop}{w:World}(m:List Pc):∀(l:List Pc) (b o:Nat),hH ok w l b o->hH ok w m b (o+10*l.length)->hH ok w (l++m) b o:=by
 intro l
 induction l with
 | nil=>intro b o _ h;exact h
 | cons p r A=>
   rintro b o ⟨I,G,E⟩ J
   refine⟨I,G,A b (o+10) E ?_⟩
   rwa[show o+10+10*r.length=o+10*(r.length+1) by omega]
theorem hH.cells {ok:Nat->Prop}{w:World}:∀(l:List Pc) (b o:Nat),hH ok w l b o->∃cs:List Value,cs.length=l.length*10/\(∀(j:Nat) u,cs[j]? =some u->w.cell? ⟨b,o+j,none⟩=some u)/\∀u∈cs,u.oneCell'=true:=by
 intro l
 induction l with
 | nil=>intro b o _;exact⟨[],rfl,λj u h=>by simp at h,λu h=>by cases h⟩
 | cons p r M=>
   rintro b o ⟨⟨c0,c1,c2⟩,hx,A⟩
   obtain⟨cs,R,O,N⟩:=M b (o+10) A
   obtain⟨J,K,V,U⟩:=fF.cells _ _ _ hx
   simp only[Vl.len]at K
   refine⟨[.int .i64 p.pos,.bool p.hole,.string p.text]++(J++cs),by simp[R,K];omega,λj u m=> ?_,λu E=> ?_⟩
   · by_cases G:j<3
     · match j,G with
       | 0,_=>simp at m;subst m;exact c0
       | 1,_=>simp at m;subst m;exact c1
       | 2,_=>simp at m;subst m;exact c2
     · rw[List.getElem?_append_right (by simp;omega)]at m
       simp only[List.length_cons,List.length_nil]at m
       by_cases I:j<10
       · rw[List.getElem?_append_left (by omega)]at m
         have:=V _ u m
         rwa[show o+3+(j - (0+1+1+1))=o+j by omega]at this
       · rw[List.getElem?_append_right (by omega)]at m
         have:=O _ u m
         rwa[show o+10+(j - (0+1+1+1) - J.length)=o+j by omega]at this
   · simp only[List.mem_append,List.mem_cons,List.not_mem_nil,or_false]at E
     rcases E with(rfl | rfl | rfl) | E | E
     all_goals first | rfl | exact U u E | exact N u E
def zC (w:World)(m:Option Addr)(l:List Pc)(cs:List Value):Prop:=cs.length=l.length*10/\(∀(j:Nat) u,cs[j]? =some u->∃b o,m=some ⟨b,o,none⟩/\b<w.heap.size/\w.cell? ⟨b,o+j,none⟩=some u)/\∀u∈cs,u.oneCell'=true
theorem Pcs.cells {ok:Nat->Prop}{w:World}{E:Option Addr}{m c:Nat}{l:List Pc}(h:Pcs ok w (.slice E m c) l):∃cs,zC w E l cs:=by
 obtain⟨O,N,I,M,K,J⟩:=h
 cases I
 cases l with
 | nil=>exact⟨[],rfl,λj u h=>by simp at h,λu h=>by cases h⟩
 | cons p r=>
   obtain⟨b,o,rfl,-,A⟩:=J (by simp)
   obtain⟨cs,q1,q2,q4⟩:=hH.cells _ _ _ A
   exact⟨cs,q1,λj u G=>⟨b,o,rfl,ej A.1.1,q2 j u G⟩,q4⟩
theorem zC.kept {w w':World}{A:Option Addr}{l:List Pc}{cs:List Value}(h:zC w A l cs)(m:Below w.heap.size w w'):zC w' A l cs:=
 ⟨h.1,λj u E=>by
  obtain⟨b,o,I,r,G⟩:=h.2.1 j u E
  exact⟨b,o,I,AI r m.size,(m.cell (p:=⟨b,_,none⟩) r).trans G⟩,h.2.2⟩
attribute [local go_sem ↓] Go.wp_at_zero Go.wp_at_succ
def Wk (v m:Value):Prop:=m=v\/(∃k a b,v=.int k a/\m=.int k b)\/(∃a b,v=.string a/\m=.string b)\/(∃a b,v=.bool a/\m=.bool b)\/(∃a n c,v=.slice a n c/\m=.slice none 0 0)
theorem Wk.int {k:IntKind}{a:Int}{v:Value}(h:Wk (.int k a) v):∃b,v=.int k b:=by
 rcases h with rfl | ⟨A,a2,r,m,rfl⟩ | ⟨_,_,m,_⟩ | ⟨_,_,m,_⟩ | ⟨_,_,_,m,_⟩
 · exact⟨a,rfl⟩
 · injection m with o E;subst o;exact⟨r,rfl⟩
 all_goals cases m
theorem Wk.string {a:ByteArray}{v:Value}(h:Wk (.string a) v):∃b,v=.string b:=by
 rcases h with rfl | ⟨_,_,_,m,_⟩ | ⟨_,b,_,rfl⟩ | ⟨_,_,m,_⟩ | ⟨_,_,_,m,_⟩
 · exact⟨a,rfl⟩
 · cases m
 · exact⟨b,rfl⟩
 all_goals cases m
theorem Wk.bool {a:Bool}{v:Value}(h:Wk (.bool a) v):∃b,v=.bool b:=by
 rcases h with rfl | ⟨_,_,_,m,_⟩ | ⟨_,_,m,_⟩ | ⟨_,b,_,rfl⟩ | ⟨_,_,_,m,_⟩
 · exact⟨a,rfl⟩
 · cases m
 · cases m
 · exact⟨b,rfl⟩
 · cases m
theorem Wk.slice {a:Option Addr}{n c:Nat}{v:Value}(h:Wk (.slice a n c) v):v=.slice a n c\/v=.slice none 0 0:=by
 rcases h with rfl | ⟨_,_,_,m,_⟩ | ⟨_,_,m,_⟩ | ⟨_,_,m,_⟩ | ⟨_,_,_,_,rfl⟩
 · exact .inl rfl
 · cases m
 · cases m
 · cases m
 · exact .inr rfl
theorem Wk.trans {x y z:Value}(h:Wk x y)(k:Wk y z):Wk x z:=by
 rcases h with rfl | ⟨m,a,b,rfl,rfl⟩ | ⟨a,b,rfl,rfl⟩ | ⟨a,b,rfl,rfl⟩ | ⟨a,n,c,rfl,rfl⟩
 · exact k
 · obtain⟨c,rfl⟩:=k.int;exact .inr (.inl ⟨_,_,_,rfl,rfl⟩)
 · obtain⟨c,rfl⟩:=k.string;exact .inr (.inr (.inl ⟨_,_,rfl,rfl⟩))
 · obtain⟨c,rfl⟩:=k.bool;exact .inr (.inr (.inr (.inl ⟨_,_,rfl,rfl⟩)))
 · rcases k.slice with rfl | rfl <;> exact .inr (.inr (.inr (.inr ⟨_,_,_,rfl,rfl⟩)))
theorem wD {w:World}{b c j:Nat}{v:Value}(h:UnF w b):UnF (w.setCell ⟨c,j,none⟩ v) b:=λi=>by rw[World.frozen?_setCell];exact h i
theorem xL {w:World}{c j:Nat}{u x:Value}(A:w.cell? ⟨c,j,none⟩=some x)(hx:Wk x u):∀b o v,w.cell? ⟨b,o,none⟩=some v->∃r,(w.setCell ⟨c,j,none⟩ u).cell? ⟨b,o,none⟩=some r/\Wk v r:=by
 intro b o v m
 by_cases e:(⟨c,j,none⟩:Addr)=⟨b,o,none⟩
 · rw[<-e]at m ⊢
   rw[A]at m
   injection m with m
   exact⟨u,World.cell?_setCell_same _ _ _ A,by rw[<-m];exact hx⟩
 · exact⟨v,(World.cell?_setCell_other _ _ _ _ e).trans m,.inl rfl⟩
theorem eH {w:World}{b i j:Nat}{v:Value}(h:i≠j):(w.setCell ⟨b,i,none⟩ v).cell? ⟨b,j,none⟩=w.cell? ⟨b,j,none⟩:=World.cell?_setCell_other _ _ _ _ (by intro e;injection e with _ e _;exact h e)
structure Sq (P:Nat->Prop)(w w':World):Prop where
 off:Off (λb=>b<w.heap.size/\¬P b) w w'
 cel:∀b o v,P b->w.cell? ⟨b,o,none⟩=some v->∃v',w'.cell? ⟨b,o,none⟩=some v'/\Wk v v'
 unf:∀b,P b->UnF w b->UnF w' b
theorem Sq.refl (P:Nat->Prop)(w:World):Sq P w w:=⟨Off.refl _ _,λ_ _ v _ h=>⟨v,h,.inl rfl⟩,λ_ _ h=>h⟩
theorem Sq.trans {P:Nat->Prop}{a b c:World}(h:Sq P a b)(k:Sq P b c):Sq P a c:=⟨h.off.trans (k.off.mono λx hx=>⟨AI hx.1 h.off.size,hx.2⟩),λx o v m G=>by
 obtain⟨E,r,K⟩:=h.cel x o v m G
 obtain⟨A,J,I⟩:=k.cel x o E m r
 exact⟨A,J,K.trans I⟩,λb m r=>k.unf b m (h.unf b m r)⟩
theorem Sq.set {P:Nat->Prop}{c j:Nat}{w0 w:World}{u x:Value}(h:Sq P w0 w)(hB:P c)(r:w.cell? ⟨c,j,none⟩=some x)(hx:Wk x u):Sq P w0 (w.setCell ⟨c,j,none⟩ u):=
 h.trans ⟨⟨rfl,rfl,rfl,by simp[World.setCell],λb m=>Below.heap_setCell _ _ _ _ (λe=>m.2 (by have A:b=c:=e;rw[A];exact hB))⟩,λb o v _=>xL r hx b o v,λb _ m=>wD m⟩
theorem Sq.alloc {P:Nat->Prop}{w:World}(r:∀b,P b->b<w.heap.size)(o:Obj):Sq P w (w.alloc o):=
 ⟨(Off.of_below ((AH w.heap.size w).alloc (AG _) o)).mono λb E=>E.1,λb j v m A=>⟨v,(((AH w.heap.size w).alloc (AG _) o).cell (p:=⟨b,j,none⟩) (r b m)).trans A,.inl rfl⟩,λb m h=>h.same (((AH w.heap.size w).alloc (AG _) o).block b (r b m))⟩
def NmQ (P:Nat->Prop)(w:World)(v:Value):Prop:=∃a n c,v=.slice a n c/\n<=c/\c<=maxLen/\(n≠0->∃b o,a=some ⟨b,o,none⟩/\P b/\UnF w b/\∀i,i<n->∃s,w.cell? ⟨b,o+i,none⟩=some (.string s))
def oM (P:Nat->Prop)(w:World):Vl->Nat->Nat->Prop
 | .nil,_,_=>True
 | .cons h k r,b,o=>
   (∃G bb n u tx A,w.cell? ⟨b,o,none⟩=some (.int .u8 G)/\w.cell? ⟨b,o+1,none⟩=some (.bool bb)/\w.cell? ⟨b,o+2,none⟩=some (.int .i64 n)/\w.cell? ⟨b,o+3,none⟩=some (.int .u64 u)/\w.cell? ⟨b,o+4,none⟩=some (.string tx)/\w.cell? ⟨b,o+5,none⟩=some A/\NmQ P w A)/\
   (∃(a:Option Addr) (n c:Nat),w.cell? ⟨b,o+6,none⟩=some (.slice a n c)/\n<=c/\c<=maxLen/\(n=0\/(n=k.len/\∃m E,a=some ⟨m,E,none⟩/\P m/\UnF w m/\oM P w k m E)))/\
   oM P w r b (o+7)
theorem NmQ.sq {P:Nat->Prop}{w w':World}{v m:Value}(E:Sq P w w')(h:NmQ P w v)(G:Wk v m):NmQ P w' m:=by
 obtain⟨a,n,c,rfl,U,R,O⟩:=h
 rcases G.slice with rfl | rfl
 · refine⟨a,n,c,rfl,U,R,λJ=> ?_⟩
   obtain⟨b,o,N,hB,I,M⟩:=O J
   refine⟨b,o,N,hB,E.unf b hB I,λi K=> ?_⟩
   obtain⟨s,A⟩:=M i K
   obtain⟨m,r,hw⟩:=E.cel _ _ _ hB A
   obtain⟨t,rfl⟩:=hw.string
   exact⟨t,r⟩
 · exact⟨none,0,0,rfl,AG _,Nat.zero_le _,λh=>absurd rfl h⟩
theorem oM.sq {P:Nat->Prop}{w w':World}(m:Sq P w w'):∀(t:Vl) (b o:Nat),P b->oM P w t b o->oM P w' t b o:=by
 intro t
 induction t with
 | nil=>intro b o _ _;exact trivial
 | cons h k r G E=>
   rintro b o A ⟨⟨kd,bb,n,u,tx,vk,c0,c1,c2,c3,c4,c5,hn⟩,⟨ak,W,ck,c6,k1,Z,Y⟩,hr⟩
   obtain⟨v0,d0,q0⟩:=m.cel _ _ _ A c0
   obtain⟨v1,d1,q1⟩:=m.cel _ _ _ A c1
   obtain⟨v2,d2,q2⟩:=m.cel _ _ _ A c2
   obtain⟨v3,d3,q3⟩:=m.cel _ _ _ A c3
   obtain⟨v4,d4,q4⟩:=m.cel _ _ _ A c4
   obtain⟨v5,d5,q5⟩:=m.cel _ _ _ A c5
   obtain⟨v6,K,q6⟩:=m.cel _ _ _ A c6
   obtain⟨V,rfl⟩:=q0.int
   obtain⟨U,rfl⟩:=q1.bool
   obtain⟨R,rfl⟩:=q2.int
   obtain⟨O,rfl⟩:=q3.int
   obtain⟨N,rfl⟩:=q4.string
   refine⟨⟨V,U,R,O,N,v5,d0,d1,d2,d3,d4,d5,hn.sq m q5⟩,?_,E b _ A hr⟩
   rcases q6.slice with rfl | rfl
   · refine⟨ak,W,ck,K,k1,Z,Y.imp id ?_⟩
     rintro⟨h1,M,J,h2,I,h4,h5⟩
     exact⟨h1,M,J,h2,I,m.unf _ I h4,G M J I h5⟩
   · exact⟨none,0,0,K,AG _,Nat.zero_le _,.inl rfl⟩
theorem NmQ.of {P ok:Nat->Prop}{w:World}(m:∀b,ok b->P b/\UnF w b){v:Value}{l:List ByteArray}(h:Strs ok w v l):NmQ P w v:=by
 obtain⟨R,O,rfl,J,I,G⟩:=h
 refine⟨R,l.length,O,rfl,J,I,λr=> ?_⟩
 obtain⟨o,E,N,A,M⟩:=G (by intro e;rw[e]at r;exact r rfl)
 exact⟨o,E,N,(m o A).1,(m o A).2,λi K=>⟨l[i],M i _ (List.getElem?_eq_getElem K)⟩⟩
theorem oM.of {P ok:Nat->Prop}{w:World}(m:∀b,ok b->P b/\UnF w b):∀(t:Vl) (b o:Nat),fF ok w t b o->oM P w t b o:=by
 intro t
 induction t with
 | nil=>intro b o _;exact trivial
 | cons h k r G E=>
   rintro b o ⟨⟨c0,c1,c2,c3,c4,v,c5,R⟩,⟨W,ck,c6,K,O,N⟩,U⟩
   refine⟨⟨_,_,_,_,_,_,c0,c1,c2,c3,c4,c5,NmQ.of m R⟩,⟨W,k.len,ck,c6,K,O,?_⟩,E b _ U⟩
   cases k with
   | nil=>exact .inl rfl
   | cons Z K Y=>
     obtain⟨A,J,V,M,I⟩:=N (by simp)
     exact .inr ⟨rfl,A,J,V,(m A M).1,(m A M).2,G A J I⟩
theorem Ag {P:Nat->Prop}{b p:Nat}{w0 w:World}{E r o:Int}{A:Bool}{m:ByteArray}{a5 Y:Option Addr}{I K G J:Nat}(h:Sq P w0 w)(hB:P b)(c0:w.cell? ⟨b,p,none⟩=some (.int .u8 E))(c1:w.cell? ⟨b,p+1,none⟩=some (.bool A))(c2:w.cell? ⟨b,p+2,none⟩=some (.int .i64 r))(c3:w.cell? ⟨b,p+3,none⟩=some (.int .u64 o))(c4:w.cell? ⟨b,p+4,none⟩=some (.string m))(c5:w.cell? ⟨b,p+5,none⟩=some (.slice a5 I K))(c6:w.cell? ⟨b,p+6,none⟩=some (.slice Y G J))(tx:ByteArray):
 Sq P w0 (((((((w.setCell ⟨b,p,none⟩ (.int .u8 0)).setCell ⟨b,p+1,none⟩ (.bool false)).setCell ⟨b,p+2,none⟩ (.int .i64 0)).setCell ⟨b,p+3,none⟩ (.int .u64 0)).setCell ⟨b,p+4,none⟩ (.string tx)).setCell ⟨b,p+5,none⟩ (.slice none 0 0)).setCell ⟨b,p+6,none⟩ (.slice none 0 0)):=by
 have W:=h.set hB c0 (u:=.int .u8 0) (.inr (.inl ⟨_,_,0,rfl,rfl⟩))
 have V:=W.set hB ((eH (show p≠p+1 by omega)).trans c1) (u:=.bool false) (.inr (.inr (.inr (.inl ⟨_,_,rfl,rfl⟩))))
 have U:=V.set hB ((eH (show p+1≠p+2 by omega)).trans ((eH (show p≠p+2 by omega)).trans c2)) (u:=.int .i64 0) (.inr (.inl ⟨_,_,0,rfl,rfl⟩))
 have R:=U.set hB ((eH (show p+2≠p+3 by omega)).trans ((eH (show p+1≠p+3 by omega)).trans ((eH (show p≠p+3 by omega)).trans c3))) (u:=.int .u64 0) (.inr (.inl ⟨_,_,0,rfl,rfl⟩))
 have O:=R.set hB ((eH (show p+3≠p+4 by omega)).trans ((eH (show p+2≠p+4 by omega)).trans ((eH (show p+1≠p+4 by omega)).trans ((eH (show p≠p+4 by omega)).trans c4)))) (u:=.string tx) (.inr (.inr (.inl ⟨_,_,rfl,rfl⟩)))
 have N:=O.set hB ((eH (show p+4≠p+5 by omega)).trans ((eH (show p+3≠p+5 by omega)).trans ((eH (show p+2≠p+5 by omega)).trans ((eH (show p+1≠p+5 by omega)).trans ((eH (show p≠p+5 by omega)).trans c5))))) (u:=.slice none 0 0) (.inr (.inr (.inr (.inr ⟨_,_,_,rfl,rfl⟩))))
 have M:=N.set hB ((eH (show p+5≠p+6 by omega)).trans ((eH (show p+4≠p+6 by omega)).trans ((eH (show p+3≠p+6 by omega)).trans ((eH (show p+2≠p+6 by omega)).trans ((eH (show p+1≠p+6 by omega)).trans ((eH (show p≠p+6 by omega)).trans c6)))))) (u:=.slice none 0 0) (.inr (.inr (.inr (.inr ⟨_,_,_,rfl,rfl⟩))))
 exact M
def SqP (P:Nat->Prop)(w:World)(e:Ending)(w':World):Prop:=e=.returned (.tuple #[])/\Sq P w w'
def tR (m:Nat):Prop:=∀(x:Vl),eX x<m->∀(P:Nat->Prop) (A n u:Int) (bb:Bool) (tx:ByteArray) (r:Value) (a:Option Addr) (c:Nat) (w:World),(∀b,P b->b<w.heap.size)->NmQ P w r->x.len<=c->c<=maxLen->(x≠.nil->∃b o,a=some ⟨b,o,none⟩/\P b/\UnF w b/\oM P w x b o)->
 Calls Tryz.prog 15 #[.agg #[.int .u8 A,.bool bb,.int .i64 n,.int .u64 u,.string tx,r,.slice a x.len c]] w (SqP P w)
theorem wJ (m:Nat)(ih:tR m):tR (m+1):=by
 intro x hx P kd n u bb tx vk a c w hP hk h1 h2 h3
 have HX:=AF h3
 have az:=AF hk
 have IH:=AF ih
 have G:=AF hP
 obtain⟨Z,K,ck,rfl,k1,k2,-⟩:=id hk
 have am:maxLen<=9223372036854775807:=by decide
 obtain⟨M,hM⟩:∃M,maxLen=M:=⟨_,rfl⟩
 rw[hM]at am h2 k2
 have HM:=AF hM
 clear h3 ih hP hM hk
 have HA:Hid (Sq P w (w.alloc (.cells #[.int .u8 kd,.bool bb,.int .i64 n,.int .u64 u,.string tx,.slice Z K ck,.slice a x.len c] 31))):=Sq.alloc G.out _
 have aA:Hid ((w.alloc (.cells #[.int .u8 kd,.bool bb,.int .i64 n,.int .u64 u,.string tx,.slice Z K ck,.slice a x.len c] 31)).heap[w.heap.size]? =some (.cells #[.int .u8 kd,.bool bb,.int .i64 n,.int .u64 u,.string tx,.slice Z K ck,.slice a x.len c] 31 (0,0))):=heap_alloc_new w _
 have aS:Hid (w.heap.size<(w.alloc (.cells #[.int .u8 kd,.bool bb,.int .i64 n,.int .u64 u,.string tx,.slice Z K ck,.slice a x.len c] 31)).heap.size):=by unfold Hid;simp
 go_enter Tryz.func15,Tryz.ntmps15
 go_upto_region 1 with(fail)
 generalize ap:World.alloc w _=W0 at*
 clear ap
 go_wp2_with fail
 go_loopw [2] (λv2 wr=>∃i:Nat,v2=.int .i64 (i:Nat)/\i<=M/\Hid (Sq P w wr)/\Hid (wr.heap[w.heap.size]? =some (.cells #[.int .u8 kd,.bool bb,.int .i64 n,.int .u64 u,.string tx,.slice Z K ck,.slice a x.len c] 31 (0,0)))) (λv _=>M+1 - (intOf v).toNat)
 case atStart=>exact⟨0,rfl,Nat.zero_le _,HA,aA⟩
 case round=>
 obtain⟨i,rfl,hi,N,E⟩:=hrel
 have p5:wr.cell? ⟨w.heap.size,5,none⟩=some (.slice Z K ck):=by rw[dW E.out];rfl
 have aL:(0:Int)<=(i:Int):=by omega
 by_cases ae:i<K
 · have af:(i:Int)<(K:Int):=by omega
   obtain⟨_,_,_,he,-,-,q3⟩:=NmQ.sq N.out az.out (.inl rfl)
   cases he
   obtain⟨b2,o2,rfl,ah,aq,A⟩:=q3 (by omega)
   obtain⟨s2,ao⟩:=A i ae
   have aH:wr.frozen? ⟨b2,o2+i,none⟩=false:=aq (o2+i)
   have aw:=AF (N.out.set ah ao (.inr (.inr (.inl ⟨_,⟨#[115,112,111,105,108,116]⟩,rfl,rfl⟩))))
   have aB:=G.out b2 ah
   have aa:=AF ((Below.heap_setCell wr ⟨b2,o2+i,none⟩ (.string ⟨#[115,112,111,105,108,116]⟩) w.heap.size (by show w.heap.size≠b2;omega)).trans E.out)
   have an:i+1<=M:=by omega
   clear q3 A
   go_wp2_with fail
   exact⟨⟨i+1,by go_num,an,aw,aa⟩,by simp[intOf];omega⟩
 have af:¬(i:Int)<(K:Int):=by omega
 go_wp2_with fail
 clear p5
 go_loopw [3] (λv3 wr=>∃(j:Nat) (r:Vl),v3=.int .i64 (j:Nat)/\j+r.len=x.len/\eX r<=eX x/\Hid (r≠.nil->∃b o,a=some ⟨b,o,none⟩/\P b/\UnF wr b/\oM P wr r b (o+j*7))/\Hid (Sq P w wr)/\Hid (wr.heap[w.heap.size]? =some (.cells #[.int .u8 kd,.bool bb,.int .i64 n,.int .u64 u,.string tx,.slice Z K ck,.slice a x.len c] 31 (0,0)))) (λv _=>x.len - (intOf v).toNat)
 case atStart=>
  refine⟨0,x,rfl,by omega,AG _,λal=> ?_,N,E⟩
  obtain⟨b,o,q1,q2,q3,q4⟩:=HX.out al
  exact⟨b,o,q1,q2,N.out.unf b q2 q3,by rw[Nat.zero_mul,Nat.add_zero];exact oM.sq N.out _ _ _ q2 q4⟩
 case round=>
 clear N E ae af hi
 obtain⟨j,r,rfl,hj,aj,HR,N,E⟩:=hrel
 have p6:wr.cell? ⟨w.heap.size,6,none⟩=some (.slice a x.len c):=by rw[dW E.out];rfl
 have aK:(0:Int)<=(j:Int):=by omega
 cases r with
 | nil=>
   simp only[Vl.len]at hj
   have aM:¬(j:Int)<(x.len:Int):=by omega
   go_wp2_with fail
   go_end0
   exact⟨rfl,N.out⟩
 | cons h k r=>
   simp only[Vl.len]at hj
   simp only[eX]at aj
   have aI:(j:Int)<(x.len:Int):=by omega
   obtain⟨b,o,rfl,J,ac,R⟩:=HR.out (by simp)
   have ai:=AF R
   have ar:=AF ac
   obtain⟨⟨W,Y,n1,u1,V,U,c0,c1,c2,c3,c4,c5,hn⟩,⟨ag,ng,cg,c6,g1,g2,g3⟩,-⟩:=R
   have ad:=N.out.off.size
   have aJ:=G.out b J
   have KC:Hid (Calls Tryz.prog 15 #[.agg #[.int .u8 W,.bool Y,.int .i64 n1,.int .u64 u1,.string V,U,.slice ag ng cg]] wr (SqP P wr)):=by
    rcases g3 with rfl | ⟨rfl,b',o',e1,e2,e3,e4⟩
    · exact IH.out .nil (by show(0:Nat)<_;omega) P W n1 u1 Y V U ag cg wr (λb J=>AI (G.out b J) ad) hn (Nat.zero_le _) g2 (λh=>absurd rfl h)
    · exact IH.out k (by omega) P W n1 u1 Y V U ag cg wr (λb J=>AI (G.out b J) ad) hn g1 g2 (λ_=>⟨b',o',e1,e2,e3,e4⟩)
   obtain⟨av,nv,cv,rfl,-⟩:=hn
   clear g3 HR ac
   go_wp2_with fail
   refine KC.out.mono ?_
   rintro e w2 ⟨rfl,A⟩
   have ax:=AF (N.out.trans A)
   have ab:=AF ((A.off.block w.heap.size ⟨dX E.out,λhp=>by have:=G.out _ hp;omega⟩).trans E.out)
   have hz:∀j,w2.frozen? ⟨b,j,none⟩=false:=A.unf b J ar.out
   obtain⟨⟨aG,aP,n2,u2,aD,aC,d0,d1,d2,d3,d4,d5,aQ,aE,aN,rfl,-⟩,⟨aR,aF,aO,d6,-⟩,I⟩:=oM.sq A _ _ _ J ai.out
   clear KC A c0 c1 c2 c3 c4 c5 c6 p6
   have p6:w2.cell? ⟨w.heap.size,6,none⟩=some (.slice (some ⟨b,o,none⟩) x.len c):=by rw[dW ab.out];rfl
   have au:=AF (λtx=>Ag (Sq.refl P w2) J d0 d1 d2 d3 d4 d5 d6 tx)
   have ay:=AF I
   clear I
   go_wp2_with fail
   have O:=au.out ⟨#[115,112,111,105,108,116]⟩
   have aa:Hid _:=(O.off.block w.heap.size ⟨dX ab.out,λhp=>by have:=G.out _ hp;omega⟩).trans ab.out
   refine⟨⟨j+1,r,by go_num,by omega,by omega,λ_=>⟨b,o,rfl,J,O.unf b J hz,by rw[show o+(j+1)*7=o+j*7+7 by omega];exact oM.sq O _ _ _ J ay.out⟩,ax.out.trans O,aa⟩,by simp[intOf];omega⟩
theorem vI:∀m,tR m
 | 0=>λx hx=>by omega
 | m+1=>wJ m (vI m)
theorem ge (P:Nat->Prop)(x:Vl)(r n u:Int)(bb:Bool)(tx:ByteArray)(m:Value)(a:Option Addr)(c:Nat)(w:World)(E:∀b,P b->b<w.heap.size)(A:NmQ P w m)(J:x.len<=c)(I:c<=maxLen)(G:x≠.nil->∃b o,a=some ⟨b,o,none⟩/\P b/\UnF w b/\oM P w x b o):
 Calls Tryz.prog 15 #[.agg #[.int .u8 r,.bool bb,.int .i64 n,.int .u64 u,.string tx,m,.slice a x.len c]] w (SqP P w):=
 vI (eX x+1) x (Nat.lt_succ_self _) P r n u bb tx m a c w E A J I G
end Go.Proofs.YtepcpgdfbaklfaaGreatDoor
