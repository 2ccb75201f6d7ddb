/- Slices of parts and of templates that a call makes itself, by append. The condition: at most 2 to the 24th parts. -/
import Derived.Test.YtepcpgdfbaklfaaGreatDoorQcTrd
import Derived.Test.YtepcpgdfbaklfaaGreatDoorQcTs0
import Derived.Laws.AppendOwnNone
set_option linter.unusedVariables false
set_option linter.unusedSimpArgs false
namespace Go.Proofs.YtepcpgdfbaklfaaGreatDoor
open Go.RowKit Go.Shelf
theorem iI.kept {ok:Nat->Prop}{w w':World}(m:eL ok w w'):∀(t:Pt) (cs:List Value),iI ok w t cs->iI ok w' t cs:=by
 intro t
 induction t with
 | nil=>intro cs h;exact h
 | cons h k e r _ _ I=>
   rintro cs ⟨A,E,G,o,rfl,N,M,K,J⟩
   exact⟨A,E,G,o,rfl,N.kept m,M.kept m,K.kept m,I _ J⟩
theorem iI.mono {ok ok':Nat->Prop}{w:World}(m:∀b,ok b->ok' b):∀(t:Pt) (cs:List Value),iI ok w t cs->iI ok' w t cs:=by
 intro t
 induction t with
 | nil=>intro cs h;exact h
 | cons h k e r _ _ I=>
   rintro cs ⟨A,E,G,o,rfl,N,M,K,J⟩
   exact⟨A,E,G,o,rfl,N.mono m,M.mono m,K.mono m,I _ J⟩
theorem fw.kept {ok:Nat->Prop}{w w':World}(A:eL ok w w'):∀(t:List Df) (cs:List Value),fw ok w t cs->fw ok w' t cs:=by
 intro t
 induction t with
 | nil=>intro cs h;exact h
 | cons d r o=>
   rintro cs ⟨v,m,rfl,G,E⟩
   exact⟨v,m,rfl,G.kept A,o _ E⟩
theorem fw.mono {ok ok':Nat->Prop}{w:World}(A:∀b,ok b->ok' b):∀(t:List Df) (cs:List Value),fw ok w t cs->fw ok' w t cs:=by
 intro t
 induction t with
 | nil=>intro cs h;exact h
 | cons d r o=>
   rintro cs ⟨v,m,rfl,G,E⟩
   exact⟨v,m,rfl,G.mono A,o _ E⟩
theorem fw.len {ok:Nat->Prop}{w:World}:∀(l:List Df) (cs:List Value),fw ok w l cs->cs.length=l.length*3:=by
 intro l
 induction l with
 | nil=>intro cs h;obtain rfl:cs=[]:=h;rfl
 | cons d r m=>
   rintro cs ⟨v,A,rfl,E,o⟩
   have:=m _ o
   simp only[List.length_append,List.length_cons,List.length_nil];omega
theorem fw.row {ok:Nat->Prop}{w:World}:∀(l:List Df) (cs:List Value) (b o:Nat),fw ok w l cs->(∀j u,cs[j]? =some u->w.cell? ⟨b,o+j,none⟩=some u)->hZ ok w l b o:=by
 intro l
 induction l with
 | nil=>intro cs b o _ _;exact trivial
 | cons d r E=>
   rintro cs b o ⟨v,A,rfl,J,I⟩ m
   refine⟨m 0 _ rfl,m 1 _ rfl,⟨v,m 2 _ rfl,J⟩,E A b (o+3) I (λj u G=> ?_)⟩
   have:=m (3+j) u (by rw[List.getElem?_append_right (by simp)];simpa using G)
   rwa[show o+(3+j)=o+3+j by omega]at this
theorem fA {w w':World}{B r n:Nat}{e:TypeId}{v:Value}{o:List Value}(h:w.ownsRow B e r v n o)(E:∀g,v.ownBlock=some g->w'.heap[g]? =w.heap[g]?):w'.ownsRow B e r v n o:=by
 refine⟨h.1,?_⟩
 rcases h.2 with h | ⟨g,cap,m,A,J,I,G⟩
 · exact .inl h
 · exact .inr ⟨g,cap,m,A,J,(E g (by rw[A];rfl)).trans I,G⟩
theorem fg {w:World}{B r n:Nat}{e:TypeId}{v:Value}{o:List Value}(h:w.ownsRow B e r v n o):∀g,v.ownBlock=some g->B<=g/\g<w.heap.size:=λg m=>⟨(World.ownsRow.lt h g m).1,(World.ownsRow.lt h g m).2⟩
def Nw (B:Nat)(w:World)(v:Value)(b:Nat):Prop:=B<=b/\b<w.heap.size/\v.ownBlock≠some b
def Nb (B:Nat)(w:World)(b:Nat):Prop:=B<=b/\b<w.heap.size
def rF (B:Nat)(w:World)(v:Value)(t:Pt):Prop:=∃cs,w.ownsRow B 56 8 v t.len cs/\iI (Nw B w v) w t cs
theorem rF.nil (B:Nat)(w:World):rF B w (.slice none 0 0) .nil:=⟨[],World.ownsRow_nil _ _ _ _,rfl⟩
theorem rF.below {B:Nat}{w w':World}{v:Value}{t:Pt}(h:rF B w v t)(m:Below w.heap.size w w'):rF B w' v t:=by
 obtain⟨cs,o,A⟩:=h
 refine⟨cs,fA o (λg r=>m.block g (fg o g r).2),?_⟩
 exact(A.kept (λb h=>m.block b h.2.1)).mono (λb h=>⟨h.1,AI h.2.1 m.size,h.2.2⟩) _ _
theorem fd {w:World}{B I n:Nat}{e:TypeId}{v:Value}{r:List Value}(h:w.ownsRow B e I v n r):∃a c,v=.slice a n c/\n<=c/\c<=maxLen/\(r≠[]->∃g,a=some ⟨g,0,none⟩/\B<=g/\g<w.heap.size/\∀j u,r[j]? =some u->w.cell? ⟨g,j,none⟩=some u):=by
 rcases h with⟨E,⟨rfl,rfl⟩ | ⟨g,cap,M,rfl,hB,G,A,m,K,J⟩⟩
 · exact⟨none,0,rfl,AG _,by decide,λhx=>by simp at E;exact absurd E hx⟩
 · refine⟨_,_,rfl,A,m,λ_=>⟨g,rfl,hB,dX G,λj u o=> ?_⟩⟩
   rw[dW G,←Array.getElem?_toList]
   rw[<-J,List.getElem?_take]at o
   split at o
   · exact o
   · cases o
theorem rF.parts {B:Nat}{w:World}{v:Value}{t:Pt}(h:rF B w v t):d8 (Nb B w) w v t:=by
 obtain⟨cs,N,r⟩:=h
 obtain⟨a,c,rfl,M,K,J⟩:=fd N
 refine⟨a,c,rfl,M,K,λA=> ?_⟩
 have E:=iI.len _ _ r
 obtain⟨g,rfl,o,m,I⟩:=J (by rintro rfl;cases t with
  | nil=>exact A rfl
  | cons _ _ _ _=>simp[Pt.len]at E)
 exact⟨g,0,rfl,⟨o,m⟩,iI.row t cs g 0 (iI.mono (λb h=>⟨h.1,h.2.1⟩) _ _ r) (λj u G=>by rw[Nat.zero_add];exact I j u G)⟩
def oS (B:Nat)(w:World)(v:Value)(l:List Df):Prop:=∃cs,w.ownsRow B 70 3 v l.length cs/\fw (Nw B w v) w l cs
theorem oS.nil (B:Nat)(w:World):oS B w (.slice none 0 0) []:=⟨[],World.ownsRow_nil _ _ _ _,rfl⟩
theorem oS.below {B:Nat}{w w':World}{v:Value}{l:List Df}(h:oS B w v l)(m:Below w.heap.size w w'):oS B w' v l:=by
 obtain⟨cs,o,A⟩:=h
 refine⟨cs,fA o (λg r=>m.block g (fg o g r).2),?_⟩
 exact(A.kept (λb h=>m.block b h.2.1)).mono (λb h=>⟨h.1,AI h.2.1 m.size,h.2.2⟩) _ _
theorem oS.defs {B:Nat}{w:World}{v:Value}{l:List Df}(h:oS B w v l):fU (Nb B w) w v l:=by
 obtain⟨cs,N,r⟩:=h
 obtain⟨a,c,rfl,M,K,J⟩:=fd N
 refine⟨a,c,rfl,M,K,λA=> ?_⟩
 have E:=fw.len _ _ r
 obtain⟨g,rfl,o,m,I⟩:=J (by rintro rfl;cases l with
  | nil=>exact A rfl
  | cons _ _=>simp at E)
 exact⟨g,0,rfl,⟨o,m⟩,fw.row l cs g 0 (fw.mono (λb h=>⟨h.1,h.2.1⟩) _ _ r) (λj u G=>by rw[Nat.zero_add];exact I j u G)⟩
theorem sF {B:Nat}{w w':World}{v:Value}{g n cap:Nat}(r:w.grownBy w' v.ownBlock)(o:v.ownBlock=some g\/g=w.heap.size):
 eL (Nw B w v) w w'/\∀b,Nw B w v b->Nw B w' (.slice (some ⟨g,0,none⟩) n cap) b:=by
 refine⟨λb m=>r.block b m.2.1 (λe=>m.2.2 e.symm),λb m=>⟨m.1,AI m.2.1 r.size,?_⟩⟩
 show some g≠some b
 rintro⟨rfl⟩
 rcases o with h | h
 · exact m.2.2 h
 · have:=m.2.1;omega
theorem uY:(Tryz.prog.info? 70).map (λi=>(i.zero,i.size,i.bytes))=some (some (.agg #[.string ⟨#[]⟩,.int .i64 0,.slice none 0 0]),3,48):=by kernel_rfl
theorem ir {w:World}{q:Nat}{cs:Array Value}{T:TypeId}{fr:Nat×Nat}(r:w.heap[q]? =some (.cells cs T fr)):∀j u,cs.toList[j]? =some u->w.cell? ((⟨q,0,none⟩:Addr).add j)=some u:=λj u o=>by
 have m:(⟨q,0,none⟩:Addr).add j=⟨q,j,none⟩:=by unfold Addr.add;split <;> simp_all
 rw[m,dW r];simpa using o
theorem vz {I:Array Oper}{rest:List Oper}{o:Oper}{a:Act}{w:World}{Q:Exit->Act->World->Prop}(aa:o.guard=none)(s x:Operand)
 (ho:o.op=.call {callee:=.builtin .append,args:=#[s,x],argTypes:=#[22,22]})
 (B:Nat) (v:Value) (t:Pt) (hs:a.eval s=v) (r:rF B w v t) (h:Hd) (k e:Pt) (vn vk ve:Value) (q c:Nat) (hx:a.eval x=.slice (some ⟨q,0,none⟩) 1 c) (T:TypeId) (fr:Nat×Nat)
 (hq:w.heap[q]? =some (.cells (eo h vn vk ve) T fr)) (hn:Strs (Nw B w v) w vn h.names) (Z:d8 (Nw B w v) w vk k) (he:d8 (Nw B w v) w ve e) (ac:t.len<=16777216) (hB:B<=w.heap.size)
 (H:∀U w',rF B w' U (t.app (.one h k e))->Below B w w'->w.grownBy w' v.ownBlock->(eL (Nw B w v) w w'/\∀b,Nw B w v b->Nw B w' U b)->wpList Tryz.prog I Q rest (a.put o.dst U) w'):wpList Tryz.prog I Q (o::rest) a w:=by
 obtain⟨i0,hi,Y,W,V⟩:=info_parts ju
 obtain⟨cs,r,J⟩:=r
 obtain⟨N,K,rfl,n1,n2,n3⟩:=hn
 obtain⟨O,ck,rfl,k1,k2,k3⟩:=Z
 obtain⟨R,M,rfl,e1,e2,e3⟩:=he
 refine wpList_append_lies w aa s x 22 ho B 56 i0 _ 8 128 Tryz.underlying22 hi Y W V (by rfl) (by decide) v t.len cs hs r ⟨q,0,none⟩ 1 c (ey h (.slice N h.names.length K) (.slice O k.len ck) (.slice R e.len M)) hx (by rfl) (ir hq) ?_ (by decide) (by unfold maxLen;omega) (by omega) hB w.heap.size rfl ?_
 · intro u hu
   simp only[ey,List.mem_cons,List.not_mem_nil,or_false]at hu
   rcases hu with rfl | rfl | rfl | rfl | rfl | rfl | rfl | rfl <;> rfl
 · intro g cap w' G m ab ad
   obtain⟨E,A⟩:=sF (B:=B) (n:=t.len+1) (cap:=cap) m ab
   refine H _ w' ⟨cs++ey h (.slice N h.names.length K) (.slice O k.len ck) (.slice R e.len M),?_,iI.app _ _ _ _ (iI.mono A _ _ (iI.kept E _ _ J)) ⟨.slice N h.names.length K,.slice O k.len ck,.slice R e.len M,[],by simp[ey],?_,?_,?_,rfl⟩⟩ ((AH B w).grown m hB (λk Z=>(World.ownsRow.lt r k Z).1)) m ⟨E,A⟩
   · rw[Pt.len_app];exact G
   · exact Strs.mono (Strs.kept ⟨N,K,rfl,n1,n2,n3⟩ E) A
   · exact d8.mono (d8.kept ⟨O,ck,rfl,k1,k2,k3⟩ E) A
   · exact d8.mono (d8.kept ⟨R,M,rfl,e1,e2,e3⟩ E) A
theorem xP {I:Array Oper}{rest:List Oper}{o:Oper}{a:Act}{w:World}{Q:Exit->Act->World->Prop}(V:o.guard=none)(s x:Operand)
 (ho:o.op=.call {callee:=.builtin .append,args:=#[s,x],argTypes:=#[23,23]})
 (B:Nat) (v:Value) (l:List Df) (hs:a.eval s=v) (r:oS B w v l) (d:Df) (Y:Value) (q c:Nat) (hx:a.eval x=.slice (some ⟨q,0,none⟩) 1 c) (T:TypeId) (fr:Nat×Nat)
 (hq:w.heap[q]? =some (.cells #[.string d.name,.int .i64 d.pos,Y] T fr)) (U:d8 (Nw B w v) w Y d.kids) (aa:l.length<=16777216) (hB:B<=w.heap.size)
 (H:∀M w',oS B w' M (l++[d])->Below B w w'->w.grownBy w' v.ownBlock->(eL (Nw B w v) w w'/\∀b,Nw B w v b->Nw B w' M b)->wpList Tryz.prog I Q rest (a.put o.dst M) w'):wpList Tryz.prog I Q (o::rest) a w:=by
 obtain⟨i0,hi,R,O,N⟩:=info_parts uY
 obtain⟨cs,r,J⟩:=r
 obtain⟨K,ck,rfl,k1,k2,k3⟩:=U
 refine wpList_append_lies w V s x 23 ho B 70 i0 _ 3 48 Tryz.underlying23 hi R O N (by rfl) (by decide) v l.length cs hs r ⟨q,0,none⟩ 1 c [.string d.name,.int .i64 d.pos,.slice K d.kids.len ck] hx (by rfl) (ir hq) ?_ (by decide) (by unfold maxLen;omega) (by omega) hB w.heap.size rfl ?_
 · intro u Z
   simp only[List.mem_cons,List.not_mem_nil,or_false]at Z
   rcases Z with rfl | rfl | rfl <;> rfl
 · intro g cap w' A m W ab
   obtain⟨G,E⟩:=sF (B:=B) (n:=l.length+1) (cap:=cap) m W
   refine H _ w' ⟨cs++[.string d.name,.int .i64 d.pos,.slice K d.kids.len ck],?_,fw.app _ _ _ _ (fw.mono E _ _ (fw.kept G _ _ J)) ⟨.slice K d.kids.len ck,[],by simp,?_,rfl⟩⟩ ((AH B w).grown m hB (λk U=>(World.ownsRow.lt r k U).1)) m ⟨G,E⟩
   · rw[List.length_append];exact A
   · exact d8.mono (d8.kept ⟨K,ck,rfl,k1,k2,k3⟩ G) E
theorem ie {w:World}(base:Nat)(t G e:TypeId)(i:TypeInfo)(size:Nat)(r:Tryz.prog.underlying t=some (.slice e))(A:Tryz.prog.info? e=some i)(c:Nat)
 (v:Value) (n:Nat) (E:List Value) (m:w.ownsRow base e size v n E):(Builtin.append_ #[t,t] G #[v,.slice none 0 c]).run Tryz.prog w=.ok v w:=by
 rcases m.2 with⟨rfl,rfl⟩ | ⟨g,cap,I,rfl,_,_,o,_⟩
 · simp[Builtin.append_,run_underlying r,sizeOf,typeInfo,A,Builtin.lenOf,Builtin.firstCells]
 · simp[Builtin.append_,run_underlying r,sizeOf,typeInfo,A,Builtin.lenOf,Builtin.firstCells,o,storeCells]
theorem qA {w:World}{m:Array Oper}{rest:List Oper}{o:Oper}{a:Act}{Q:Exit->Act->World->Prop}(E:o.guard=none)(s x:Operand)(t:TypeId)
 (M:o.op=.call {callee:=.builtin .append,args:=#[s,x],argTypes:=#[t,t]})
 (base:Nat) (e:TypeId) (i:TypeInfo) (size:Nat) (I:Tryz.prog.underlying t=some (.slice e)) (N:Tryz.prog.info? e=some i) (c:Nat)
 (v:Value) (n:Nat) (G:List Value) (J:a.eval s=v) (A:w.ownsRow base e size v n G) (hx:a.eval x=.slice none 0 c)
 (h:wpList Tryz.prog m Q rest (a.put o.dst v) w):wpList Tryz.prog m Q (o::rest) a w:=by
 refine wpList_plain E λK O=> ?_
 have r:=ie (w:=w) base t o.type e i size I N c v n G A
 unfold Oper.wp
 simp[execOp,M,resolve,invoke,builtin,J,hx,r,Result.andThen]
 exact O _ _ h
theorem mM:(Tryz.prog.info? 9).map (λi=>(i.zero,i.size,i.bytes))=some (some (.string ⟨#[]⟩),1,16):=by kernel_rfl
theorem vy {E:Array Oper}{rest:List Oper}{o:Oper}{a:Act}{w:World}{Q:Exit->Act->World->Prop}(I:o.guard=none)(s x:Operand)
 (Y:o.op=.call {callee:=.builtin .append,args:=#[s,x],argTypes:=#[28,28]})
 (B:Nat) (W:a.eval s=.slice none 0 0) (ok:Nat->Prop) (l:List ByteArray) (v:Value) (hx:a.eval x=v) (hv:Strs ok w v l) (Z:l.length<=16777216) (hB:B<=w.heap.size)
 (H:∀K w',Strs (Nb B w') w' K l->Below B w w'->w.grownBy w' none->wpList Tryz.prog E Q rest (a.put o.dst K) w'):wpList Tryz.prog E Q (o::rest) a w:=by
 obtain⟨i0,M,R,O,N⟩:=info_parts mM
 obtain⟨an,c,rfl,h1,h2,h3⟩:=hv
 have r:w.ownsRow B 9 1 (.slice none 0 0) 0 []:=World.ownsRow_nil _ _ _ _
 cases an with
 | none=>
   cases l with
   | nil=>exact qA I s x 28 Y B 9 i0 1 Tryz.underlying28 M c _ 0 [] W r hx (H _ _ (Strs.nil _ _) (AH _ _) (World.grownBy.refl w _))
   | cons y l=>obtain⟨b,o,V,-⟩:=h3 (by simp);cases V
 | some ad=>
   refine wpList_append_own w I s x 28 Y B 9 i0 (.string ⟨#[]⟩) 1 16 Tryz.underlying28 M R O N (by rfl) (by decide) _ 0 [] W r ad l.length c (l.map Value.string) hx (by simp) ?_ ?_ (by unfold maxLen;omega) (by omega) hB ?_
   · intro j u hj
     obtain⟨x,G,rfl⟩:∃x,l[j]? =some x/\Value.string x=u:=by simpa using hj
     obtain⟨b,o,V,-,U⟩:=h3 (by rintro rfl;simp at G)
     obtain rfl:ad=⟨b,o,none⟩:=Option.some.inj V
     have J:(⟨b,o,none⟩:Addr).add j=⟨b,o+j,none⟩:=by unfold Addr.add;split <;> simp_all
     rw[J];exact U j x G
   · intro u hu
     obtain⟨x,-,rfl⟩:=List.mem_map.1 hu
     rfl
   · intro K w' m A _
     have hb:Below B w w':=(AH B w).grown A hB (λk hk=>(World.ownsRow.lt r k hk).1)
     refine H K w' ?_ hb A
     rw[Nat.zero_add,List.nil_append]at m
     obtain⟨a',c',rfl,q1,q2,q3⟩:=fd m
     refine⟨a',c',rfl,q1,q2,λhn=> ?_⟩
     obtain⟨g,rfl,g1,g2,g3⟩:=q3 (by simpa using hn)
     exact⟨g,0,rfl,⟨g1,g2⟩,λi s M=>by rw[Nat.zero_add];exact g3 i _ (by simp[M])⟩
end Go.Proofs.YtepcpgdfbaklfaaGreatDoor
