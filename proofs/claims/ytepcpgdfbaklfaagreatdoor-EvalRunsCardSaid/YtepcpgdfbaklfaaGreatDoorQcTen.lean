/- The contract of the reader's end. The condition: no list is longer than 2 to the 24th. -/
import Derived.Test.YtepcpgdfbaklfaaGreatDoorQcTrd
import Derived.Test.YtepcpgdfbaklfaaGreatDoorTdfQ
set_option maxRecDepth 100000
set_option maxHeartbeats 4000000
set_option linter.unusedVariables false
namespace Go.Proofs.YtepcpgdfbaklfaaGreatDoor
open Go.RowKit Go.Shelf
theorem RdG.same' {C:Nat->Prop}{B q q' bx:Nat}{s:St}{A r:Nat->Nat}{M:List Nat}{I J K:Value}{w w':World}(o:gA C A r w w')(m:∀c,c<=6+2*s.rest.length->C c)(E:q<=q')(h:RdG B q bx s A M I J K w):RdG B q' bx s r M I J K w':=
 ⟨h.bb,(o.2 bx (dX h.hx) (by rw[h.cx];exact m _ (by omega))).1.trans h.cx,(o.2 bx (dX h.hx) (by rw[h.cx];exact m _ (by omega))).2.trans h.hx,h.st.same o (m _ (by omega)),
  h.fr.same o (m _ (by omega)) E _ _ (λi N=>by simp only[List.length_cons]at N;exact⟨m _ (by omega),m _ (by omega)⟩),h.df.same o (m _ (by omega)) (m _ (by omega)),h.cl.same o (m _ (by omega)),
  h.l1,h.l2,Nat.le_trans h.l3 E,Nat.le_trans h.l4 E,Nat.le_trans h.hB o.1,λb G=>(o.2 b (AI G h.hB) (by rw[h.ol b G];exact m _ (by omega))).1.trans (h.ol b G)⟩
theorem RdM.mono {B q q' bx:Nat}{s:St}{w:World}(h:RdM B q bx s w)(r:q<=q'):RdM B q' bx s w:=by
 obtain⟨m,I,o,E,G,A⟩:=h
 exact⟨m,I,o,E,G,A.same (show gA (λ_=>True) m m w w from⟨AG _,λ_ _ _=>⟨rfl,rfl⟩⟩) (λ_=>trivial) r⟩
theorem ew.more {B q q' bx:Nat}{w:World}{r:Rs St}{e:Ending}{w':World}(h:ew B q bx w r e w')(o:q<=q'):ew B q' bx w r e w':=by
 refine⟨h.1,?_⟩
 have m:=h.2
 cases r with
 | ok s=>exact⟨m.1,m.2.mono o⟩
 | err n p=>exact m
theorem pr {w:World}{B n c g:Nat}{e:TypeId}{r:List Value}{x:Value}(h:w.ownsRow B e 1 (.slice (some ⟨g,0,none⟩) (n+1) c) (n+1) (r++[x])):w.ownsRow B e 1 (.slice (some ⟨g,0,none⟩) n c) n r:=by
 obtain⟨M,m⟩:=h
 simp only[List.length_append,List.length_cons,List.length_nil]at M
 rcases m with⟨m,-⟩ | ⟨R,cap,A,m,K,J,O,I,G,E⟩
 · cases m
 · injection m with o U N
   injection o with o
   injection o with o
   subst o;subst N
   refine⟨by omega,.inr ⟨g,c,A,rfl,K,J,by omega,I,G,?_⟩⟩
   have:=congrArg (List.take n) E
   rw[List.take_take,List.take_append_of_le_length (by omega),List.take_of_length_le (l:=r) (by omega)]at this
   rw[<-this,Nat.mul_one]
   congr 1
   omega
theorem RdG.popped {B q bx Z g c:Nat}{f N:Fr}{r:List Fr}{defs:List Df}{many:Nat}{calls:List (By×Nat)}{o:Nat->Nat}{U:List Nat}{O R:Value}{w:World}
 (m:RdG B q bx ⟨f,N::r,defs,many,calls⟩ o (Z::U) (.slice (some ⟨g,0,none⟩) (r.length+1+1) c) O R w):
 RdG B q bx ⟨N,r,defs,many,calls⟩ o U (.slice (some ⟨g,0,none⟩) (r.length+1) c) O R (w.setCell ⟨bx,0,none⟩ (.slice (some ⟨g,0,none⟩) (r.length+1) c)):=by
 have G:=jk o w bx 0 1 (.slice (some ⟨g,0,none⟩) (r.length+1) c) m.cx
 obtain⟨Y,aa,V,-,K⟩:=m.fr
 injection V with e1 M
 subst e1;subst M
 have A:=m.st.1
 rw[nD]at A
 have E:o g=2:=m.st.2 g rfl
 have I:=m.l2
 exact{
  bb:=m.bb
  cx:=m.cx
  hx:=d7 (j:=0) m.hx _
  st:=⟨mG (pr A) _ _ _ (λe=>by
   have M:g=bx:=by simpa[Value.ownBlock]using e
   have:=m.cx;rw[<-M,E]at this;cases this),λW J=>by
   have:g=W:=by simpa[Value.ownBlock]using J
   rw[<-this];exact E⟩
  fr:=K.same G (by decide) (AG q) _ _ (λi _=>⟨by omega,by omega⟩)
  df:=m.df.same G (by decide) (by decide)
  cl:=m.cl.same G (by decide)
  l1:=m.l1
  l2:=by have:r.length+1<=64:=I;show r.length<=64;omega
  l3:=m.l3
  l4:=m.l4
  hB:=Nat.le_trans m.hB G.1
  ol:=m.ol}
def vV (B q bx o g c:Nat)(f:Fr)(s:St)(N:List Nat)(J M:Value)(K E:Pt)(W:World):Prop:=
 ∃ m va vc A r I G,RdG B q bx s m N (.slice (some ⟨g,0,none⟩) (s.rest.length+1) c) J M W/\Strs (Ok m W) W (.slice va f.names.length vc) (f.names.map mkB)/\d8 (Ok m W) W (.slice A K.len r) K/\d8 (Ok m W) W (.slice I E.len G) E/\
   (∀j u,(ey (ip f.kind f.pos f.root f.names) (.slice va f.names.length vc) (.slice A K.len r) (.slice I E.len G))[j]? =some u->W.cell? ⟨o,j,none⟩=some u)/\o<W.heap.size/\m o=5+2*(s.rest.length+1)
theorem tC {B q bx E g c:Nat}{f f2:Fr}{r:List Fr}{defs:List Df}{many:Nat}{calls:List (By×Nat)}{A:Nat->Nat}{bs:List Nat}{dv cv:Value}{w:World}
 (U:RdG B q bx ⟨f,f2::r,defs,many,calls⟩ A (E::bs) (.slice (some ⟨g,0,none⟩) (r.length+1+1) c) dv cv w) (hk:f.kind≠6) {O R o:Value} (hh:w.heap[E]? =some (.cells (frCells f O R o) 100 (0,0))):
 (f.els=false->vV B q bx E g c f ⟨f2,r,defs,many,calls⟩ bs dv cv f.kids .nil ((w.setCell ⟨bx,0,none⟩ (.slice (some ⟨g,0,none⟩) (r.length+1) c)).setCell ⟨E,6,none⟩ o))/\
 (f.els=true->vV B q bx E g c f ⟨f2,r,defs,many,calls⟩ bs dv cv f.fst f.kids ((w.setCell ⟨bx,0,none⟩ (.slice (some ⟨g,0,none⟩) (r.length+1) c)).setCell ⟨E,7,none⟩ o)):=by
 have hp:=U.popped
 have ai:=jk A w bx 0 1 (.slice (some ⟨g,0,none⟩) (r.length+1) c) U.cx
 obtain⟨aq,ar,he,hF,-⟩:=U.fr
 injection he with e1 e2
 subst e1;subst e2
 have Y:FrM B A (w.setCell ⟨bx,0,none⟩ (.slice (some ⟨g,0,none⟩) (r.length+1) c)) q (r.length+1) E f:=hF.same ai (by decide) (by show 5+2*(r.length+1)≠1;omega) (by show 6+2*(r.length+1)≠1;omega) (AG q)
 have K:A E=5+2*(r.length+1):=Y.2.1
 have am:E≠bx:=λe=>by have:=U.cx;rw[<-e,K]at this;omega
 have af:(w.setCell ⟨bx,0,none⟩ (.slice (some ⟨g,0,none⟩) (r.length+1) c)).heap[E]? =some (.cells (frCells f O R o) 100 (0,0)):=(Below.heap_setCell _ _ _ _ am).trans hh
 clear ai hF hh
 obtain⟨W,hW⟩:∃W,w.setCell ⟨bx,0,none⟩ (.slice (some ⟨g,0,none⟩) (r.length+1) c)=W:=⟨_,rfl⟩
 rw[hW]at hp Y af ⊢
 clear hW U
 obtain⟨ap,-,ao,Z,aa,ab,V,ag,ah,hK⟩:=Y
 have e1:frCells f O R o=frCells f Z aa ab:=by
  have:=af.symm.trans V
  injection this with this
  injection this
 have en:O=Z:=congrArg (λc:Array Value=>c[4]!) e1
 have ek:R=aa:=congrArg (λc:Array Value=>c[6]!) e1
 have ev:o=ab:=congrArg (λc:Array Value=>c[13]!) e1
 subst en;subst ek;subst ev
 have I:∀g,o.ownBlock=some g->A g=6+2*(r.length+1):=by
  obtain⟨cs,⟨-,h2⟩,-⟩:=hK
  exact h2
 have hS:∀j,gA (λc=>c≠5+2*(r.length+1)/\c≠6+2*(r.length+1)) A (lF A o) W (W.setCell ⟨E,j,none⟩ o):=λj=>
  ⟨by simp[World.setCell],λb _ hc=>⟨iE I hc.2,Below.heap_setCell _ _ _ _ (λe=>hc.1 (by rw[e];exact K))⟩⟩
 have c0:(λc=>c≠5+2*(r.length+1)/\c≠6+2*(r.length+1)) 0:=⟨by omega,by omega⟩
 have ac:∀j,RdG B q bx ⟨f2,r,defs,many,calls⟩ (lF A o) bs (.slice (some ⟨g,0,none⟩) (r.length+1) c) dv cv (W.setCell ⟨E,j,none⟩ o):=λj=>
  hp.same' (hS j) (λc hc=>by replace hc:c<=6+2*r.length:=hc;exact⟨by omega,by omega⟩) (AG q)
 have ae:∀j,d8 (Ok (lF A o) (W.setCell ⟨E,j,none⟩ o)) (W.setCell ⟨E,j,none⟩ o) o f.kids:=λj=>
  iA hK (hS j) c0 (λg U=>Below.heap_setCell _ _ _ _ (λe=>by have e2:g=E:=e;have:=I g U;rw[e2,K]at this;omega))
 have an:=dX V
 have M:∀j,E<(W.setCell ⟨E,j,none⟩ o).heap.size:=λj=>by simp[World.setCell];exact an
 have N:lF A o E=5+2*(r.length+1):=by rw[iE I (by omega)];exact K
 have G:∀j,(W.setCell ⟨E,j,none⟩ o).heap[E]? =some (.cells ((frCells f O R o).setIfInBounds j o) 100 (0,0)):=λj=>d7 (j:=j) V o
 have ad:∀j,Strs (Ok (lF A o) (W.setCell ⟨E,j,none⟩ o)) (W.setCell ⟨E,j,none⟩ o) O (f.names.map mkB):=λj=>(hS j).strs c0 ag
 have al:∀j,d8 (Ok (lF A o) (W.setCell ⟨E,j,none⟩ o)) (W.setCell ⟨E,j,none⟩ o) R f.fst:=λj=>(hS j).parts c0 ah
 have aj:∃va vc,O=.slice va f.names.length vc:=by obtain⟨va,vc,h,-⟩:=ag;exact⟨va,vc,by rw[h,List.length_map]⟩
 have ak:∃va vc,R=.slice va f.fst.len vc:=by obtain⟨va,vc,h,-⟩:=ah;exact⟨va,vc,h⟩
 obtain⟨ka,kc,J⟩:=hK.slice
 obtain⟨va,vc,rfl⟩:=aj
 obtain⟨fa,fc,rfl⟩:=ak
 constructor
 · intro he
   refine⟨lF A o,va,vc,ka,kc,none,0,ac 6,ad 6,?_,d8.nil _ _,?_,M 6,N⟩
   · rw[<-J];exact ae 6
   · intro j u m
     rw[dW (G 6)]
     simp only[ey,ip]at m
     rw[<-J]at m
     match j,m with
     | 0,m=>rw[<-m];simp[frCells,hk]
     | 1,m=>rw[<-m];simp[frCells,hk]
     | 2,m=>rw[<-m];rfl
     | 3,m=>rw[<-m];rfl
     | 4,m=>rw[<-m];rfl
     | 5,m=>rw[<-m];rfl
     | 6,m=>rw[<-m];rfl
     | 7,m=>rw[<-m];rfl
     | j+8,m=>simp at m
 · intro he
   refine⟨lF A o,va,vc,fa,fc,ka,kc,ac 7,ad 7,al 7,?_,?_,M 7,N⟩
   · rw[<-J];exact ae 7
   · intro j u m
     rw[dW (G 7)]
     simp only[ey,ip]at m
     rw[<-J]at m
     match j,m with
     | 0,m=>rw[<-m];simp[frCells,hk]
     | 1,m=>rw[<-m];simp[frCells,hk]
     | 2,m=>rw[<-m];rfl
     | 3,m=>rw[<-m];rfl
     | 4,m=>rw[<-m];rfl
     | 5,m=>rw[<-m];rfl
     | 6,m=>rw[<-m];rfl
     | 7,m=>rw[<-m];rfl
     | j+8,m=>simp at m
def tF (x y:By)(at_:Nat)(s:St):Rs St:=match kH y with
 | none=>.err 190 at_
 | some p=>if eK x=false then .err 190 at_ else St.add (iP at_ x p.1 p.2) at_ {s with calls:=s.calls++[(x,at_)]}
theorem rA (x y:By)(at_:Nat)(s:St):act3 eY x y at_ s=tF x y at_ s:=by
 unfold act3 tF
 rw[if_pos rfl]
 cases kH y with
 | none=>rfl
 | some p=>
   dsimp only
   split
   · rfl
   · unfold St.add St.count
     split <;> rfl
theorem RdG.called {B q bx:Nat}{s:St}{E:Nat->Nat}{bs:List Nat}{U Z R:Value}{w w2:World}(o:RdG B q bx s E bs U Z R w){cs:List Value}{x:By}{at_:Nat}{root:Bool}{va:Option Addr}{vl vc:Nat}
 (r:∀g,R.ownBlock=some g->E g=4) (I:kw s.calls cs)
 (W:w.heap.size<=w2.heap.size) (M:∀b,b<w.heap.size->some b≠R.ownBlock->w2.heap[b]? =w.heap[b]?) {A m:Nat}
 (G:w2.ownsRow B 56 8 (.slice (some ⟨A,0,none⟩) (s.calls.length+1) m) (s.calls.length+1) (cs++[.int .u8 5,.int .i64 (at_:Nat),.string ⟨#[]⟩,.bool root,.slice va vl vc,.string (mkB x),.slice none 0 0,.slice none 0 0])) (N:R.ownBlock=some A\/w.heap.size<=A):
 RdG B (q+1) bx {s with calls:=s.calls++[(x,at_)]} (dye E A 4) bs U Z (.slice (some ⟨A,0,none⟩) (s.calls.length+1) m) (w2.setCell ⟨bx,4,none⟩ (.slice (some ⟨A,0,none⟩) (s.calls.length+1) m))/\
 gA (λk=>k≠1/\k≠4) E (dye E A 4) w (w2.setCell ⟨bx,4,none⟩ (.slice (some ⟨A,0,none⟩) (s.calls.length+1) m)):=by
 have K:=dX o.hx
 have O:=jM (j:=4) (u:=.slice (some ⟨A,0,none⟩) (s.calls.length+1) m) o.cx (by decide:(1:Nat)≠4) r W M N
 have V:w2.heap[bx]? =some (.cells (ij U Z s.many R) 103 (0,0)):=(M bx K (λe=>by have:=r bx e.symm;rw[o.cx]at this;cases this)).trans o.hx
 have J:A≠bx:=by
  rintro rfl
  rcases N with h1 | h1
  · have:=r _ h1;rw[o.cx]at this;cases this
  · omega
 have c0:(λk=>k≠1/\k≠4) 0:=⟨by decide,by decide⟩
 refine⟨{
  bb:=o.bb
  cx:=(jb (Ne.symm J)).trans o.cx
  hx:=d7 (j:=4) V _
  st:=o.st.same O ⟨by decide,by decide⟩
  fr:=o.fr.same O c0 (Nat.le_succ q) _ _ (λi _=>⟨⟨by omega,by omega⟩,⟨by omega,by omega⟩⟩)
  df:=o.df.same O c0 ⟨by decide,by decide⟩
  cl:=⟨cs++[.int .u8 5,.int .i64 (at_:Nat),.string ⟨#[]⟩,.bool root,.slice va vl vc,.string (mkB x),.slice none 0 0,.slice none 0 0],⟨by
   rw[List.length_append,List.length_singleton]
   exact mG G _ _ _ (λe=>J (by simpa[Value.ownBlock]using e)),λg Y=>by
   have:A=g:=by simpa[Value.ownBlock]using Y
   rw[<-this];exact lc _ _⟩,kw.app _ _ _ _ I ⟨root,va,vl,vc,[],rfl,rfl⟩⟩
  l1:=o.l1
  l2:=o.l2
  l3:=Nat.le_succ_of_le o.l3
  l4:=by rw[List.length_append,List.length_singleton];have:=o.l4;omega
  hB:=Nat.le_trans o.hB O.1
  ol:=λb hb=>(jb (by have:=sB G;omega)).trans (o.ol b hb)},O⟩
theorem nM {w:World}{B n E g c:Nat}{e:TypeId}{r:List Value}(h:w.ownsRow B e E (.slice (some ⟨g,0,none⟩) n c) n r):(∀j u,r[j]? =some u->w.cell? ⟨g,j,none⟩=some u)/\∀j,w.frozen? ⟨g,j,none⟩=false:=by
 rcases h.2 with⟨h,-⟩ | ⟨O,cap,J,I,hB,A,N,M,K,G⟩
 · cases h
 · injection I with m;injection m with m;injection m with m
   subst m
   refine⟨λj u o=> ?_,dY A⟩
   rw[dW A,←Array.getElem?_toList]
   rw[<-G,List.getElem?_take]at o
   split at o
   · exact o
   · cases o
theorem f9 {w:World}{B n A g c:Nat}{e:TypeId}{r:List Value}(h:w.ownsRow B e A (.slice (some ⟨g,0,none⟩) n c) n r)(j:Nat)(v:Value):(w.setCell ⟨g,j,none⟩ v).ownsRow B e A (.slice (some ⟨g,0,none⟩) n c) n (r.set j v):=by
 refine⟨by rw[List.length_set];exact h.1,?_⟩
 rcases h.2 with⟨h,-⟩ | ⟨O,cap,o,M,hB,G,K,J,I,E⟩
 · cases h
 · injection M with m R N;injection m with m;injection m with m
   subst m;subst N
   refine .inr ⟨g,c,o.setIfInBounds j v,rfl,hB,d7 G v,K,J,by rw[Array.size_setIfInBounds];exact I,?_⟩
   rw[Array.toList_setIfInBounds,List.take_set,E]
theorem uB (cs:List Value)(k:Nat)(N:cs.length=k)(a0 a1 a2 a3 a4 a5 U R K J I G E A r o:Value):
 (((((((((cs++[a0,a1,a2,a3,a4,a5,U,R]).set k K).set (k+1) J).set (k+2) I).set (k+3) G).set (k+4) E).set (k+5) A).set (k+6) r).set (k+7) o)=cs++[K,J,I,G,E,A,r,o]:=by
 subst N
 induction cs with
 | nil=>rfl
 | cons x cs M=>
   simp only[List.cons_append,List.length_cons]
   have e:∀(l:List Value) (m j:Nat) (v:Value),(x::l).set (m+1+j) v=x::l.set (m+j) v:=λl m j v=>by rw[show m+1+j=(m+j)+1 by omega];rfl
   have O:∀(l:List Value) (m:Nat) (v:Value),(x::l).set (m+1) v=x::l.set m v:=λl m v=>rfl
   rw[O,e,e,e,e,e,e,e,M]
theorem gC (w:World)(a b i j:Nat)(x y:Value)(h:a≠b):(w.setCell ⟨a,i,none⟩ x).setCell ⟨b,j,none⟩ y=(w.setCell ⟨b,j,none⟩ y).setCell ⟨a,i,none⟩ x:=by
 unfold World.setCell
 congr 1
 ext k
 · simp
 · simp only[Array.getElem_modify]
   split <;> split <;> simp_all
theorem rZ (w:World)(a b i k:Nat)(v J I G E A r o m:Value)(h:a≠b):
 (((((((((w.setCell ⟨a,i,none⟩ v).setCell ⟨b,k,none⟩ J).setCell ⟨b,k+1,none⟩ I).setCell ⟨b,k+2,none⟩ G).setCell ⟨b,k+3,none⟩ E).setCell ⟨b,k+4,none⟩ A).setCell ⟨b,k+5,none⟩ r).setCell ⟨b,k+6,none⟩ o).setCell ⟨b,k+7,none⟩ m)=
 (((((((((w.setCell ⟨b,k,none⟩ J).setCell ⟨b,k+1,none⟩ I).setCell ⟨b,k+2,none⟩ G).setCell ⟨b,k+3,none⟩ E).setCell ⟨b,k+4,none⟩ A).setCell ⟨b,k+5,none⟩ r).setCell ⟨b,k+6,none⟩ o).setCell ⟨b,k+7,none⟩ m).setCell ⟨a,i,none⟩ v):=by
 rw[gC w a b _ _ _ _ h,gC _ a b _ _ _ _ h,gC _ a b _ _ _ _ h,gC _ a b _ _ _ _ h,gC _ a b _ _ _ _ h,gC _ a b _ _ _ _ h,gC _ a b _ _ _ _ h,gC _ a b _ _ _ _ h]
theorem sA {w:World}{B n g c:Nat}{e:TypeId}{cs:List Value}{a0 a1 a2 a3 a4 a5 O N:Value}(M:cs.length=n*8)(h:w.ownsRow B e 8 (.slice (some ⟨g,0,none⟩) (n+1) c) (n+1) (cs++[a0,a1,a2,a3,a4,a5,O,N]))(K J I G E A r o:Value):
 ((((((((w.setCell ⟨g,n*8,none⟩ K).setCell ⟨g,n*8+1,none⟩ J).setCell ⟨g,n*8+2,none⟩ I).setCell ⟨g,n*8+3,none⟩ G).setCell ⟨g,n*8+4,none⟩ E).setCell ⟨g,n*8+5,none⟩ A).setCell ⟨g,n*8+6,none⟩ r).setCell ⟨g,n*8+7,none⟩ o).ownsRow B e 8 (.slice (some ⟨g,0,none⟩) (n+1) c) (n+1) (cs++[K,J,I,G,E,A,r,o])/\
 (∀b,b≠g->((((((((w.setCell ⟨g,n*8,none⟩ K).setCell ⟨g,n*8+1,none⟩ J).setCell ⟨g,n*8+2,none⟩ I).setCell ⟨g,n*8+3,none⟩ G).setCell ⟨g,n*8+4,none⟩ E).setCell ⟨g,n*8+5,none⟩ A).setCell ⟨g,n*8+6,none⟩ r).setCell ⟨g,n*8+7,none⟩ o).heap[b]? =w.heap[b]?)/\
 ((((((((w.setCell ⟨g,n*8,none⟩ K).setCell ⟨g,n*8+1,none⟩ J).setCell ⟨g,n*8+2,none⟩ I).setCell ⟨g,n*8+3,none⟩ G).setCell ⟨g,n*8+4,none⟩ E).setCell ⟨g,n*8+5,none⟩ A).setCell ⟨g,n*8+6,none⟩ r).setCell ⟨g,n*8+7,none⟩ o).heap.size=w.heap.size:=by
 refine⟨?_,λb m=> ?_,by simp[World.setCell]⟩
 · have:=f9 (f9 (f9 (f9 (f9 (f9 (f9 (f9 h (n*8) K) (n*8+1) J) (n*8+2) I) (n*8+3) G) (n*8+4) E) (n*8+5) A) (n*8+6) r) (n*8+7) o
   rwa[uB cs (n*8) M]at this
 · rw[Below.heap_setCell _ _ _ _ m,Below.heap_setCell _ _ _ _ m,Below.heap_setCell _ _ _ _ m,Below.heap_setCell _ _ _ _ m,Below.heap_setCell _ _ _ _ m,Below.heap_setCell _ _ _ _ m,Below.heap_setCell _ _ _ _ m,Below.heap_setCell _ _ _ _ m]
theorem tW.slice {B:Nat}{m:Nat->Nat}{w:World}{c:Nat}{T:TypeId}{o:Nat}{v:Value}{n:Nat}{cs:List Value}(h:tW B m w c T o v n cs):∃a k,v=.slice a n k:=by
 obtain⟨⟨-,r⟩,-⟩:=h
 rcases r with⟨h,A⟩ | ⟨g,cap,E,h,-⟩
 · exact⟨none,0,by rw[h,A]⟩
 · exact⟨_,cap,h⟩
theorem ml (B q bx:Nat)(hq:q<=16777215)(w0 x y:By)(hx:x.length<=16777216)(hy:y.length<=16777216)(at_:Nat)(aU:at_<=16777216)(s:St)(ab:Nat->Nat)(bs:List Nat)(sv dv cv wv:Value)(w:World)(hg:RdG B q bx s ab bs sv dv cv w)
 (bj:Sh w) (bi:Strs (Ok ab w) w wv [mkB w0,mkB x,mkB y]):
 Calls Tryz.prog 83 #[.pointer (some ⟨bx,0,none⟩),wv,.int .i64 (at_:Nat)] w (ew B (q+2) bx w (tF x y at_ s)):=by
 obtain⟨a,c,rfl,h1,h2,h3⟩:=bi
 obtain⟨b,o,rfl,bC,aE⟩:=h3 (by simp)
 have d1:w.cell? ⟨b,o+1,none⟩=some (.string (mkB x)):=aE 1 _ rfl
 have d2:w.cell? ⟨b,o+2,none⟩=some (.string (mkB y)):=aE 2 _ rfl
 have MU:=AF (iz (mkB y) (by rw[fi];exact hy) at_ aU w bj)
 rw[pM]at MU
 obtain⟨X,hX⟩:∃X,mkB x=X:=⟨_,rfl⟩
 obtain⟨Y,hY⟩:∃Y,mkB y=Y:=⟨_,rfl⟩
 have NM:=AF (λw=>iy (mkB x) (by rw[fi];omega) w)
 rw[pM,hX]at NM
 rw[hX]at d1
 rw[hY]at d2 MU
 have aX:=AF hX
 have HG:=AF hg
 have ak:Hid (B<=w.heap.size):=hg.hB
 have bF:(1:Int)<(3:Nat):=by omega
 have bE:(2:Int)<(3:Nat):=by omega
 have am:=ej d1
 clear hg hX hY aE h3 h1
 unfold tF
 cases hw:kH y with
 | none=>
   rw[hw]at MU
   clear hw
   go_enter Tryz.func83,Tryz.ntmps83
   go_wp2_with fail
   refine MU.out.mono ?_
   rintro e w1 ⟨J,rfl⟩
   have ac:=AF (J.mono ak.out)
   clear J
   go_wp2_with fail
   exact⟨rfl,ac.out,rfl⟩
 | some p=>
   rw[hw]at MU
   clear hw
   dsimp only
   cases hn:eK x with
   | false=>
     rw[hn]at NM
     rw[if_pos rfl]
     clear hn
     go_enter Tryz.func83,Tryz.ntmps83
     go_wp2_with fail
     refine MU.out.mono ?_
     rintro e w1 ⟨J,v,rfl,ad⟩
     obtain⟨va,vc,rfl,-⟩:=ad
     have ed:=(J.cell (p:=⟨b,o+1,none⟩) am).trans d1
     have ac:=AF (J.mono ak.out)
     have aY:=AF J.size
     have ay:b<w1.heap.size:=AI am J.size
     clear J
     go_wp2_with fail
     refine(NM.out _).mono ?_
     rintro e w2 ⟨rfl,U⟩
     have ao:=AF (ac.out.trans (((AH w1.heap.size w1).alloc (AG _) _).mono (Nat.le_trans ak.out aY.out) |>.trans (U.mono (by have:=aY.out;have:=ak.out;simp;omega))))
     clear U
     go_wp2_with fail
     exact⟨rfl,ao.out,rfl⟩
   | true=>
     rw[hn]at NM
     rw[if_neg (by decide)]
     clear hn
     go_enter Tryz.func83,Tryz.ntmps83
     go_wp2_with fail
     refine MU.out.mono ?_
     rintro e w1 ⟨J,v,rfl,ad⟩
     obtain⟨L,hL⟩:∃L,p.2.map mkB=L:=⟨_,rfl⟩
     rw[hL]at ad
     have HL:=AF hL
     clear hL
     have az:=AF ad
     obtain⟨va,vc,rfl,-⟩:=ad
     have ed:=(J.cell (p:=⟨b,o+1,none⟩) am).trans d1
     have ac:=AF J
     have ay:b<w1.heap.size:=AI am J.size
     clear J
     go_wp2_with fail
     refine(NM.out _).mono ?_
     rintro e w2 ⟨rfl,U⟩
     have aI:=(U.block w1.heap.size (by simp)).trans (heap_alloc_new w1 _)
     have aK:w1.heap.size<w2.heap.size:=by have:=U.size;simp at this;omega
     have N:Below w1.heap.size w1 w2:=((AH w1.heap.size w1).alloc (AG _) _).trans (U.mono (by simp))
     have aj:Below w.heap.size w w2:=ac.out.trans (N.mono ac.out.size)
     have aP:Strs (Ok (gv ab w.heap.size) w2) w2 (.slice va L.length vc) L:=(az.out.kept (λb Z=>N.block b Z.2.1)).mono (λb Z=>iC ⟨Z.1,AI Z.2.1 N.size,Z.2.2.same (N.block b Z.2.1)⟩)
     have ag:=HG.out.same (gp (B:=B) aj) (λ_=>trivial) (AG q)
     have q0:w2.cell? ⟨w1.heap.size,0,none⟩=some (.bool p.1):=by rw[dW aI];rfl
     have q1:w2.cell? ⟨w1.heap.size,1,none⟩=some (.slice va L.length vc):=by rw[dW aI];rfl
     have aJ:=(N.cell (p:=⟨b,o+1,none⟩) ay).trans ed
     have ao:=AF aj
     have bc:Hid (B<=w2.heap.size):=ag.hB
     clear aI U N aj az
     obtain⟨ca,cc,rfl⟩:=(show ∃a k,cv=.slice a s.calls.length k by obtain⟨cs,h,-⟩:=ag.cl;exact h.slice)
     have bu:=AF ag
     have bt:=AF aP
     have bA:=dX ag.hx
     have aT:b<w2.heap.size:=ej aJ
     have bq:∀G,(w2.alloc G).cell? ⟨b,o+1,none⟩=some (.string X):=λG=>(World.cell?_alloc_old w2 _ _ (Nat.ne_of_lt aT)).trans aJ
     have be:∀G,(w2.alloc G).cell? ⟨w1.heap.size,0,none⟩=some (.bool p.1):=λG=>(World.cell?_alloc_old w2 _ _ (Nat.ne_of_lt aK)).trans q0
     have bd:∀G,(w2.alloc G).cell? ⟨w1.heap.size,1,none⟩=some (.slice va L.length vc):=λG=>(World.cell?_alloc_old w2 _ _ (Nat.ne_of_lt aK)).trans q1
     clear ag aP
     go_wp2_with fail
     go_region
     all_goals
      go_wp2_with fail
      clear bq be bd q0 q1 aJ
      have an:=heap_alloc_new w2 (.cells #[.int .u8 5,.int .i64 (at_:Nat),.string ⟨#[]⟩,.bool p.1,.slice va L.length vc,.string X,.slice none 0 0,.slice none 0 0] 56)
      have aH:gA (λ_=>True) (gv ab w.heap.size) (gv ab w.heap.size) w2 (w2.alloc (.cells #[.int .u8 5,.int .i64 (at_:Nat),.string ⟨#[]⟩,.bool p.1,.slice va L.length vc,.string X,.slice none 0 0,.slice none 0 0] 56)):=⟨by simp,λb Z _=>⟨rfl,Below.heap_alloc _ _ _ Z⟩⟩
      have M:=bu.out.same aH (λ_=>trivial) (AG q)
      have aD:=aH.strs trivial bt.out
      have ba:=AF ((ao.out.mono ak.out).alloc bc.out (.cells #[.int .u8 5,.int .i64 (at_:Nat),.string ⟨#[]⟩,.bool p.1,.slice va L.length vc,.string X,.slice none 0 0,.slice none 0 0] 56))
      have aB:(w2.alloc (.cells #[.int .u8 5,.int .i64 (at_:Nat),.string ⟨#[]⟩,.bool p.1,.slice va L.length vc,.string X,.slice none 0 0,.slice none 0 0] 56)).heap.size=w2.heap.size+1:=by simp
      generalize hW:w2.alloc _=I
      rw[hW]at an M aD ba aB
      have bG:=AF aB
      have a8:Hid (B<=I.heap.size):=M.hB
      have aL:w2.heap.size<I.heap.size:=by omega
      clear hW aH aB
      obtain⟨-,-,-,-,c4,fz⟩:=M.cells
      have av:=dX M.hx
      have br:∀G,(I.alloc G).cell? ⟨bx,4,none⟩=some (.slice ca s.calls.length cc):=λG=>(World.cell?_alloc_old I _ _ (Nat.ne_of_lt av)).trans c4
      have O:=dW an
      have p0:I.cell? ⟨w2.heap.size,0,none⟩=some (.int .u8 5):=O 0
      have p1:I.cell? ⟨w2.heap.size,1,none⟩=some (.int .i64 (at_:Nat)):=O 1
      have p2:I.cell? ⟨w2.heap.size,2,none⟩=some (.string ⟨#[]⟩):=O 2
      have p3:I.cell? ⟨w2.heap.size,3,none⟩=some (.bool p.1):=O 3
      have p4:I.cell? ⟨w2.heap.size,4,none⟩=some (.slice va L.length vc):=O 4
      have p5:I.cell? ⟨w2.heap.size,5,none⟩=some (.string X):=O 5
      have p6:I.cell? ⟨w2.heap.size,6,none⟩=some (.slice none 0 0):=O 6
      have p7:I.cell? ⟨w2.heap.size,7,none⟩=some (.slice none 0 0):=O 7
      clear O
      have pa:∀G j,(I.alloc G).cell? ⟨w2.heap.size,j,none⟩=I.cell? ⟨w2.heap.size,j,none⟩:=λG j=>World.cell?_alloc_old I _ _ (Nat.ne_of_lt aL)
      have r0:=λG=>(pa G 0).trans p0
      have r1:=λG=>(pa G 1).trans p1
      have r2:=λG=>(pa G 2).trans p2
      have r3:=λG=>(pa G 3).trans p3
      have r4:=λG=>(pa G 4).trans p4
      have r5:=λG=>(pa G 5).trans p5
      have r6:=λG=>(pa G 6).trans p6
      have r7:=λG=>(pa G 7).trans p7
      clear pa
      obtain⟨cs,⟨V,ai⟩,ar⟩:=M.cl
      have ae:∀o,(I.alloc o).ownsRow B 56 8 (.slice ca s.calls.length cc) s.calls.length cs:=λo=>World.ownsRow.alloc V o
      have ah:cs.length=s.calls.length*8:=V.1
      have W:∀j u,([.int .u8 0,.int .i64 0,.string ⟨#[]⟩,.bool false,.slice none 0 0,.string ⟨#[]⟩,.slice none 0 0,.slice none 0 0]:List Value)[j]? =some u->(I.alloc (.cells #[.int .u8 0,.int .i64 0,.string ⟨#[]⟩,.bool false,.slice none 0 0,.string ⟨#[]⟩,.slice none 0 0,.slice none 0 0] 56)).cell? ((⟨I.heap.size,0,none⟩:Addr).add j)=some u:=by
       intro j u hj
       have Z:=heap_alloc_new I (.cells #[.int .u8 0,.int .i64 0,.string ⟨#[]⟩,.bool false,.slice none 0 0,.string ⟨#[]⟩,.slice none 0 0,.slice none 0 0] 56)
       have aV:(⟨I.heap.size,0,none⟩:Addr).add j=⟨I.heap.size,j,none⟩:=by unfold Addr.add;split <;> simp_all
       rw[aV,dW Z]
       simpa using hj
      have au:∀u∈([.int .u8 0,.int .i64 0,.string ⟨#[]⟩,.bool false,.slice none 0 0,.string ⟨#[]⟩,.slice none 0 0,.slice none 0 0]:List Value),u.oneCell'=true:=by
       intro u hu
       simp only[List.mem_cons,List.not_mem_nil,or_false]at hu
       rcases hu with rfl | rfl | rfl | rfl | rfl | rfl | rfl | rfl <;> rfl
      obtain⟨i0,hi,bh,bg,bf⟩:=info_parts ju
      have bB:B<=I.heap.size+1:=by have:=M.hB;omega
      have aM:some bx≠(Value.slice ca s.calls.length cc).ownBlock:=λe=>by have:=ai bx e.symm;rw[M.cx]at this;cases this
      have bz:s.calls.length<=q:=M.l4
      have bo:s.calls.length+1<=maxLen:=by unfold maxLen;omega
      have bp:(s.calls.length+1)*128<=140737488355328:=by omega
      have bD:(s.calls.length:Int)<((s.calls.length+1:Nat):Int):=by omega
      have bw:(s.calls.length:Int)<(s.calls.length:Int)+1:=by omega
      have kc:∀(K:World) (E A:Nat),K.ownsRow B 56 8 (.slice (some ⟨E,0,none⟩) (s.calls.length+1) A) (s.calls.length+1) (cs++[.int .u8 0,.int .i64 0,.string ⟨#[]⟩,.bool false,.slice none 0 0,.string ⟨#[]⟩,.slice none 0 0,.slice none 0 0])->∀j,K.cell? ⟨E,s.calls.length*8+j,none⟩=([.int .u8 0,.int .i64 0,.string ⟨#[]⟩,.bool false,.slice none 0 0,.string ⟨#[]⟩,.slice none 0 0,.slice none 0 0]:List Value)[j]?∨8<=j:=by
       intro K E A h j
       rcases Nat.lt_or_ge j 8 with hj | hj
       · left
         obtain⟨u,hu⟩:∃u,([.int .u8 0,.int .i64 0,.string ⟨#[]⟩,.bool false,.slice none 0 0,.string ⟨#[]⟩,.slice none 0 0,.slice none 0 0]:List Value)[j]? =some u:=⟨_,List.getElem?_eq_getElem (by simpa using hj)⟩
         rw[hu]
         exact(nM h).1 _ _ (by rw[List.getElem?_append_right (by omega),ah];simpa using hu)
       · exact .inr hj
      have KC:=AF kc
      clear kc
      go_region_law (refine step_append_lies _ (by rfl) _ _ _ (by rfl) B 56 i0 _ 8 128 Tryz.underlying22 hi bh bg bf (by rfl) (by decide) (.slice ca s.calls.length cc) s.calls.length cs (by rfl) (by exact ae _) ⟨I.heap.size,0,none⟩ 1 1 [.int .u8 0,.int .i64 0,.string ⟨#[]⟩,.bool false,.slice none 0 0,.string ⟨#[]⟩,.slice none 0 0,.slice none 0 0] (by rfl) (by rfl) (by exact W) au (by decide) bo bp (by simp;omega) (I.heap.size+1) (by simp) ?_;intro E A K m r aa aQ;have aC:¬bx=E:=(λe=>by rcases aa with h | h;exact aM (by rw[e];exact h.symm);omega);have aN:¬E=bx:=(λe=>aC e.symm);have aA:=(r.block bx (by simp;omega) aM).trans ((Below.heap_alloc _ _ _ av).trans M.hx);have s4:K.cell? ⟨bx,4,none⟩=some (.slice ca s.calls.length cc):=(by rw[dW aA];rfl);have z4:=dY aA 4;have kz:=(nM m).2;have k0:K.cell? ⟨E,s.calls.length*8,none⟩=some (.int .u8 0):=(KC.out K E A m 0).resolve_right (by decide);have k1:K.cell? ⟨E,s.calls.length*8+1,none⟩=some (.int .i64 0):=(KC.out K E A m 1).resolve_right (by decide);have k2:K.cell? ⟨E,s.calls.length*8+2,none⟩=some (.string ⟨#[]⟩):=(KC.out K E A m 2).resolve_right (by decide);have k3:K.cell? ⟨E,s.calls.length*8+3,none⟩=some (.bool false):=(KC.out K E A m 3).resolve_right (by decide);have k4:K.cell? ⟨E,s.calls.length*8+4,none⟩=some (.slice none 0 0):=(KC.out K E A m 4).resolve_right (by decide);have k5:K.cell? ⟨E,s.calls.length*8+5,none⟩=some (.string ⟨#[]⟩):=(KC.out K E A m 5).resolve_right (by decide);have k6:K.cell? ⟨E,s.calls.length*8+6,none⟩=some (.slice none 0 0):=(KC.out K E A m 6).resolve_right (by decide);have k7:K.cell? ⟨E,s.calls.length*8+7,none⟩=some (.slice none 0 0):=(KC.out K E A m 7).resolve_right (by decide))
      all_goals
       clear s4 z4 k0 k1 k2 k3 k4 k5 k6 k7 kz aA
       try rw[rZ _ _ _ _ _ _ _ _ _ _ _ _ _ _ aC]
       obtain⟨af,ax,aq⟩:=sA ah m (.int .u8 5) (.int .i64 (at_:Nat)) (.string ⟨#[]⟩) (.bool p.1) (.slice va L.length vc) (.string X) (.slice none 0 0) (.slice none 0 0)
       have al:(I.alloc (.cells #[.int .u8 0,.int .i64 0,.string ⟨#[]⟩,.bool false,.slice none 0 0,.string ⟨#[]⟩,.slice none 0 0,.slice none 0 0] 56)).grownBy K (Value.slice ca s.calls.length cc).ownBlock:=⟨r.os,r.tape,r.output,r.size,r.block⟩
       have R:B<=E:=(World.ownsRow.lt m E rfl).1
       have a7:=AF ((ba.out.alloc a8.out _).grown al (by simp;omega) (λk hk=>(World.ownsRow.lt V k hk).1))
       have a6:=AF ((((((((a7.out.setCell (p:=⟨E,s.calls.length*8,none⟩) R (.int .u8 5)).setCell (p:=⟨E,s.calls.length*8+1,none⟩) R (.int .i64 (at_:Nat))).setCell (p:=⟨E,s.calls.length*8+2,none⟩) R (.string ⟨#[]⟩)).setCell (p:=⟨E,s.calls.length*8+3,none⟩) R (.bool p.1)).setCell (p:=⟨E,s.calls.length*8+4,none⟩) R (.slice va L.length vc)).setCell (p:=⟨E,s.calls.length*8+5,none⟩) R (.string X)).setCell (p:=⟨E,s.calls.length*8+6,none⟩) R (.slice none 0 0)).setCell (p:=⟨E,s.calls.length*8+7,none⟩) R (.slice none 0 0))
       have aw:∀b,b<I.heap.size->some b≠(Value.slice ca s.calls.length cc).ownBlock->K.heap[b]? =I.heap[b]? :=λb Z hn=>(al.block b (by simp;omega) hn).trans (Below.heap_alloc _ _ _ Z)
       have ap:I.heap.size<=K.heap.size:=by have:=al.size;simp at this;omega
       generalize bn:World.setCell (World.setCell (World.setCell (World.setCell (World.setCell (World.setCell (World.setCell (World.setCell K _ _) _ _) _ _) _ _) _ _) _ _) _ _) _ _=W4 at*
       have bk:=M.called (w2:=W4) (x:=x) (at_:=at_) (root:=p.1) (va:=va) (vl:=L.length) (vc:=vc) ai ar (by rw[aq];exact ap)
        (λb Z hn=>(ax b (λe=>by
          rcases aa with h | h
          · exact hn (by rw[e];exact h.symm)
          · omega)).trans (aw b Z hn)) (by rw[aX.out];exact af) (aa.imp id (λe=>by omega))
       obtain⟨aR,aG⟩:=bk
       have bv:=AF (a6.out.setCell (p:=⟨bx,4,none⟩) M.bb (.slice (some ⟨E,0,none⟩) (s.calls.length+1) A))
       generalize bm:World.setCell W4 _ _=W6 at*
       have aS:gv ab w.heap.size w2.heap.size=0:=if_neg (by have:=ao.out.size;omega)
       have aW:=(aG.2 w2.heap.size aL (by rw[aS];exact⟨by decide,by decide⟩)).2.trans an
       have aO:=aG.strs ⟨by decide,by decide⟩ aD
       have AD:Hid (Calls Tryz.prog 46 #[.pointer (some ⟨bx,0,none⟩),.agg #[.int .u8 5,.int .i64 (at_:Nat),.string ⟨#[]⟩,.bool p.1,.slice va L.length vc,.string X,.slice none 0 0,.slice none 0 0]] W6 (ew B (q+2) bx W6 (St.add (iP at_ x p.1 p.2) at_ {s with calls:=s.calls++[(x,at_)]}))):=by
        have:=iv B (q+1) bx (by omega) _ (iP at_ x p.1 p.2) at_ aU rfl _ _ _ _ _ (.slice va L.length vc) W6 aR (by show Strs _ _ _ (p.2.map mkB);rw[HL.out];exact aO)
        have he:(iP at_ x p.1 p.2).name=X:=aX.out
        rw[he]at this
        exact this
       have O:=dW aW
       have p0:W6.cell? ⟨w2.heap.size,0,none⟩=some (.int .u8 5):=O 0
       have p1:W6.cell? ⟨w2.heap.size,1,none⟩=some (.int .i64 (at_:Nat)):=O 1
       have p2:W6.cell? ⟨w2.heap.size,2,none⟩=some (.string ⟨#[]⟩):=O 2
       have p3:W6.cell? ⟨w2.heap.size,3,none⟩=some (.bool p.1):=O 3
       have p4:W6.cell? ⟨w2.heap.size,4,none⟩=some (.slice va L.length vc):=O 4
       have p5:W6.cell? ⟨w2.heap.size,5,none⟩=some (.string X):=O 5
       have p6:W6.cell? ⟨w2.heap.size,6,none⟩=some (.slice none 0 0):=O 6
       have p7:W6.cell? ⟨w2.heap.size,7,none⟩=some (.slice none 0 0):=O 7
       clear O
       clear af ax aq a7 a6 aw ap bn bm aG m r al aa aQ aC aN aW aO aR an M aD ae V ai ar W br r0 r1 r2 r3 r4 r5 r6 r7 ah au aS
       go_wp2_with fail
       refine AD.out.mono ?_
       rintro e w7 ⟨aF,h7⟩
       have aZ:=AF (bv.out.trans aF)
       have HE:Hid (St.add (iP at_ x p.1 p.2) at_ {s with calls:=s.calls++[(x,at_)]}=St.add (iP at_ x p.1 p.2) at_ {s with calls:=s.calls++[(x,at_)]}):=rfl
       cases hR:St.add (iP at_ x p.1 p.2) at_ {s with calls:=s.calls++[(x,at_)]}with
       | ok s3=>
         rw[hR]at h7
         obtain⟨rfl,h8⟩:=h7
         have H8:=AF h8
         have HC:=AF hR
         clear h8 aF hR AD p0 p1 p2 p3 p4 p5 p6 p7
         go_wp2_with fail
         go_end0
         rw[HC.out]
         exact⟨aZ.out,rfl,H8.out⟩
       | err ee ii=>
         rw[hR]at h7
         have h8:e=.panicked [{v:=.iface 84 (.agg #[.int .i64 (ee:Nat),.int .i64 (ii:Nat)]),recovered:=false}]:=h7
         subst h8
         have HC:=AF hR
         clear h7 aF hR AD p0 p1 p2 p3 p4 p5 p6 p7
         go_wp2_with fail
         try rw[HC.out]
         exact⟨rfl,aZ.out,rfl⟩
end Go.Proofs.YtepcpgdfbaklfaaGreatDoor
