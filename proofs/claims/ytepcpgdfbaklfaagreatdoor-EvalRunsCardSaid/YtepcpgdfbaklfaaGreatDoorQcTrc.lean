/- Contracts of the reader's top and count. No condition but the reader's form in memory. -/
import Derived.Test.YtepcpgdfbaklfaaGreatDoorQcTp0
import Derived.BigQuiet
import Derived.Deep.QuietTactic
import Derived.StillTailTactics
import Derived.Test.YtepcpgdfbaklfaaGreatDoorQcMath
import Derived.Defers
import Derived.Recover
import Derived.Laws.Pointers
import Derived.WalkSpells
import Derived.WalkLawsBesides
set_option maxRecDepth 100000
set_option maxHeartbeats 1000000
set_option linter.unusedVariables false
namespace Go.Proofs.YtepcpgdfbaklfaaGreatDoor
open Go.RowKit Go.Shelf
theorem RdG.cells {B q bx:Nat}{s:St}{m:Nat->Nat}{E:List Nat}{o r A:Value}{w:World}(h:RdG B q bx s m E o r A w):
 w.cell? ⟨bx,0,none⟩=some o/\w.cell? ⟨bx,1,none⟩=some (.slice none 0 0)/\w.cell? ⟨bx,2,none⟩=some r/\w.cell? ⟨bx,3,none⟩=some (.int .i64 (s.many:Nat))/\w.cell? ⟨bx,4,none⟩=some A/\(∀j,w.frozen? ⟨bx,j,none⟩=false):=
 ⟨by rw[dW h.hx];rfl,by rw[dW h.hx];rfl,by rw[dW h.hx];rfl,by rw[dW h.hx];rfl,by rw[dW h.hx];rfl,dY h.hx⟩
theorem ownsRow.elems {w:World}{B n A:Nat}{e:TypeId}{v:Value}{o:List Value}(h:w.ownsRow B e A v n o)(K:0<n):
 ∃g c,v=.slice (some ⟨g,0,none⟩) n c/\B<=g/\g<w.heap.size/\n<=c/\c<=maxLen/\∀j u,o[j]? =some u->w.cell? ⟨g,j,none⟩=some u:=by
 rcases h.2 with⟨rfl,N⟩ | ⟨g,cap,J,rfl,hB,r,I,G,M,E⟩
 · omega
 · refine⟨g,cap,rfl,hB,dX r,I,G,λj u m=> ?_⟩
   rw[dW r,←Array.getElem?_toList]
   rw[<-E,List.getElem?_take]at m
   split at m
   · exact m
   · cases m
theorem uI (m:Nat)(o:List Nat):(vK (m::o))[o.length]? =some (.pointer (some ⟨m,0,none⟩)):=by
 simp[vK]
theorem RdG.top {B q bx:Nat}{s:St}{o:Nat->Nat}{J:List Nat}{A U V:Value}{w:World}(h:RdG B q bx s o J A U V w):
 ∃r m g c,J=r::m/\m.length=s.rest.length/\A=.slice (some ⟨g,0,none⟩) (s.rest.length+1) c/\s.rest.length+1<=c/\c<=maxLen/\o g=2/\FrM B o w q s.rest.length r s.top/\gZ B o w q s.rest m/\w.cell? ⟨g,s.rest.length,none⟩=some (.pointer (some ⟨r,0,none⟩)):=by
 obtain⟨r,m,rfl,R,I⟩:=h.fr
 obtain⟨g,c,E,hB,K,O,N,M⟩:=ownsRow.elems h.st.1 (Nat.succ_pos _)
 have G:=gZ.len _ _ I
 refine⟨r,m,g,c,rfl,G,E,O,N,h.st.2 g (by rw[E];rfl),R,I,?_⟩
 apply M
 rw[<-G];exact uI r m
theorem RdG.top' {B q bx r n g c:Nat}{s:St}{m:Nat->Nat}{A:List Nat}{R U:Value}{w:World}(h:RdG B q bx s m (r::A) (.slice (some ⟨g,0,none⟩) n c) R U w):
 FrM B m w q s.rest.length r s.top/\gZ B m w q s.rest A/\w.cell? ⟨g,s.rest.length,none⟩=some (.pointer (some ⟨r,0,none⟩)):=by
 obtain⟨M,V,W,Y,I,-,E,-,-,-,K,J,G⟩:=h.top
 injection I with O N
 injection E with o
 injection o with o
 injection o with o
 subst O;subst N;subst o
 exact⟨K,J,G⟩
def Sl (w w':World):Prop:=w'.heap=w.heap/\w'.os=w.os/\w'.tape=w.tape/\w'.output=w.output
theorem Sl.below {w w':World}(h:Sl w w')(B:Nat):Below B w w':=⟨h.2.1,h.2.2.1,h.2.2.2,by rw[h.1];exact AG _,λ_ _=>by rw[h.1]⟩
theorem Sl.drew (w:World):Sl w w.drew:=⟨rfl,rfl,rfl,rfl⟩
theorem Sl.drewN (w:World)(n:Nat):Sl w (w.drewN n):=⟨rfl,rfl,rfl,rfl⟩
theorem Sl.trans {a b c:World}(h:Sl a b)(k:Sl b c):Sl a c:=⟨k.1.trans h.1,k.2.1.trans h.2.1,k.2.2.1.trans h.2.2.1,k.2.2.2.trans h.2.2.2⟩
theorem Sl.same {w w':World}(h:Sl w w')(C:Nat->Prop)(m:Nat->Nat):gA C m m w w':=⟨by rw[h.1];exact AG _,λb _ _=>⟨rfl,by rw[h.1]⟩⟩
theorem Sl.cell {w w':World}(h:Sl w w'){a:Addr}{v:Value}(m:w.cell? a=some v):w'.cell? a=some v:=(World.cell?_of_block (w:=w) (by rw[h.1])).trans m
theorem Sl.frozen {w w':World}(h:Sl w w'){a:Addr}{v:Bool}(m:w.frozen? a=v):w'.frozen? a=v:=(World.frozen?_of_block (w:=w) (by rw[h.1])).trans m
theorem RdG.same {C:Nat->Prop}{B q q' bx:Nat}{s:St}{A r:Nat->Nat}{M:List Nat}{G J K:Value}{w w':World}(o:gA C A r w w')(m:∀c,C c)(E:q<=q')(h:RdG B q bx s A M G J K w):RdG B q' bx s r M G J K w':=
 ⟨h.bb,(o.2 bx (dX h.hx) (m _)).1.trans h.cx,(o.2 bx (dX h.hx) (m _)).2.trans h.hx,h.st.same o (m _),h.fr.same o (m _) E _ _ (λi _=>⟨m _,m _⟩),h.df.same o (m _) (m _),h.cl.same o (m _),
  h.l1,h.l2,Nat.le_trans h.l3 E,Nat.le_trans h.l4 E,Nat.le_trans h.hB o.1,λb I=>(o.2 b (AI I h.hB) (m _)).1.trans (h.ol b I)⟩
theorem RdG.turn {B q bx:Nat}{s o:St}{m:Nat->Nat}{M:List Nat}{E I J:Value}{w w':World}(h:RdG B q bx s m M E I J w)(r:gA (λc=>c≠1) m m w w')
 (hx:w'.heap[bx]? =some (.cells (ij E I o.many J) 103 (0,0))) (N:o.top=s.top) (G:o.rest=s.rest) (K:o.defs=s.defs) (A:o.calls=s.calls) (O:o.many<=1024):RdG B q bx o m M E I J w':=by
 refine⟨h.bb,h.cx,hx,?_,?_,?_,?_,O,?_,?_,?_,Nat.le_trans h.hB r.1,h.ol⟩
 · rw[G];exact h.st.same r (by decide)
 · rw[N,G];exact h.fr.same r (by decide) (AG _) _ _ (λi _=>⟨by omega,by omega⟩)
 · rw[K];exact h.df.same r (by decide) (by decide)
 · rw[A];exact h.cl.same r (by decide)
 · rw[G];exact h.l2
 · rw[K];exact h.l3
 · rw[A];exact h.l4
theorem jk (m:Nat->Nat)(w:World)(b j c:Nat)(v:Value)(r:m b=c):gA (λk=>k≠c) m m w (w.setCell ⟨b,j,none⟩ v):=
 ⟨by simp[World.setCell],λA _ o=>⟨rfl,Below.heap_setCell _ _ _ _ (λe=>o (by rw[e];exact r))⟩⟩
theorem gF (bx g n m:Nat)(c:Nat)(w:World)(E:n<=64)(I:n+1<=c)(G:c<=maxLen)(K:w.cell? ⟨bx,0,none⟩=some (.slice (some ⟨g,0,none⟩) (n+1) c))(J:w.cell? ⟨g,n,none⟩=some (.pointer (some ⟨m,0,none⟩))):
 Calls Tryz.prog 77 #[.pointer (some ⟨bx,0,none⟩)] w λe w'=>e=.returned (.pointer (some ⟨m,0,none⟩))/\w.drew=w':=by
 have r:IntKind.i64.wrap (((n+1:Nat):Int)+ -1)=(n:Int):=by rw[IntWalk.i64_in _ (by omega)];omega
 have o:(0:Int)<=(n:Int):=by omega
 have A:(n:Int)<((n+1:Nat):Int):=by omega
 go_enter Tryz.func77,Tryz.ntmps77
 go_wp2
 go_region
 all_goals (go_wp2;go_ret;exact⟨rfl,rfl⟩)
theorem lp (B bx at_ m:Nat)(I:m<=1024)(E:at_<=16777216)(w:World)(h:w.cell? ⟨bx,3,none⟩=some (.int .i64 (m:Nat)))(fz:w.frozen? ⟨bx,3,none⟩=false):
 Calls Tryz.prog 76 #[.pointer (some ⟨bx,0,none⟩),.int .i64 (at_:Nat)] w λe w'=>
  e=(if 1024<m+1 then .panicked [{v:=.iface 84 (.agg #[.int .i64 196,.int .i64 (at_:Nat)]),recovered:=false}]else .returned (.tuple #[]))/\w.setCell ⟨bx,3,none⟩ (.int .i64 ((m+1:Nat):Int))=w':=by
 have G:IntKind.i64.wrap ((m:Int)+1)=(m:Int)+1:=IntWalk.i64_in _ (by omega)
 have A:((m+1:Nat):Int)=(m:Int)+1:=by omega
 by_cases o:1024<m+1
 · have r:(1024:Int)<(m:Int)+1:=by omega
   rw[if_pos o,A]
   clear o
   go_enter Tryz.func76,Tryz.ntmps76
   go_wp2_with fail
   exact⟨rfl,rfl,rfl⟩
 · have r:¬(1024:Int)<(m:Int)+1:=by omega
   rw[if_neg o,A]
   go_enter Tryz.func76,Tryz.ntmps76
   go_wp2_with fail
   go_end0
   exact⟨rfl,rfl⟩
theorem RdG.counted {B q bx:Nat}{s:St}{m:Nat->Nat}{E:List Nat}{o r A:Value}{w:World}(h:RdG B q bx s m E o r A w)(G:s.many+1<=1024):
 RdG B q bx {s with many:=s.many+1} m E o r A (w.setCell ⟨bx,3,none⟩ (.int .i64 ((s.many+1:Nat):Int))):=by
 refine h.turn (jk m w bx 3 1 _ h.cx) ?_ rfl rfl rfl rfl G
 have hx:=h.hx
 unfold ij at*
 simp[World.setCell,Array.getElem?_modify,hx]
def ey (h:Hd)(m o r:Value):List Value:=[.int .u8 (h.kind:Nat),.int .i64 h.pos,.string h.text,.bool h.root,m,.string h.name,o,r]
def dye (m:Nat->Nat)(g c b:Nat):Nat:=if b=g then c else m b
theorem d7 {w:World}{b j:Nat}{cs:Array Value}{T:TypeId}(h:w.heap[b]? =some (.cells cs T (0,0)))(v:Value):(w.setCell ⟨b,j,none⟩ v).heap[b]? =some (.cells (cs.setIfInBounds j v) T (0,0)):=by
 simp[World.setCell,Array.getElem?_modify,h]
theorem RdG.appended {B q bx G:Nat}{s:St}{m:Nat->Nat}{bs:List Nat}{sv dv cv:Value}{w w2:World}(E:RdG B q bx s m (G::bs) sv dv cv w)
 {vn vk W:Value} (al:B<=G) (ac:m G=5+2*s.rest.length) (an:s.top.kids.len<=q) (ab:w.heap[G]? =some (.cells (frCells s.top vn vk W) 100 (0,0))) (aj:Strs (Ok m w) w vn (s.top.names.map mkB)) (ak:d8 (Ok m w) w vk s.top.fst)
 (hS:gZ B m w q s.rest bs) {cs:List Value} (J:∀g,W.ownBlock=some g->m g=6+2*s.rest.length) (Y:iI (Ok m w) w s.top.kids cs)
 {h:Hd} {k e:Pt} {M N O:Value} (hn:Strs (Ok m w) w M h.names) (hk:d8 (Ok m w) w N k) (he:d8 (Ok m w) w O e)
 (ag:w.heap.size<=w2.heap.size) (ad:∀b,b<w.heap.size->some b≠W.ownBlock->w2.heap[b]? =w.heap[b]?) {I r:Nat}
 (K:w2.ownsRow B 56 8 (.slice (some ⟨I,0,none⟩) (s.top.kids.len+1) r) (s.top.kids.len+1) (cs++ey h M N O)) (ae:W.ownBlock=some I\/w.heap.size<=I):
 RdM B (q+1) bx (s.put h k e) (w2.setCell ⟨G,13,none⟩ (.slice (some ⟨I,0,none⟩) (s.top.kids.len+1) r)):=by
 have Z:=dX ab
 have R:∀b,b<w.heap.size->m b≠6+2*s.rest.length->dye m I (6+2*s.rest.length) b=m b:=by
  intro b U V
  unfold dye
  rw[if_neg]
  rintro rfl
  rcases ae with A | A
  · exact V (J _ A)
  · omega
 have ah:G≠I:=by
  rintro rfl
  rcases ae with A | A
  · have:=J _ A;omega
  · omega
 have ao:I<w2.heap.size:=by
  rcases K.2 with⟨h0,-⟩ | ⟨g,cap,af,A,h2,h3,-⟩
  · cases h0
  · injection A with A;injection A with A;injection A with A;rw[A];exact dX h3
 have o:gA (λc=>c≠5+2*s.rest.length/\c≠6+2*s.rest.length) m (dye m I (6+2*s.rest.length)) w (w2.setCell ⟨G,13,none⟩ (.slice (some ⟨I,0,none⟩) (s.top.kids.len+1) r)):=by
  refine⟨by simp[World.setCell];exact ag,λb U V=>⟨R b U V.2,?_⟩⟩
  rw[Below.heap_setCell _ _ _ _ (λe=>by have e2:b=G:=e;rw[e2]at V;exact V.1 ac)]
  exact ad b U (λe=>V.2 (J b e.symm))
 have aa:w2.heap[G]? =some (.cells (frCells s.top vn vk W) 100 (0,0)):=(ad G Z (λe=>by have:=J G e.symm;omega)).trans ab
 have c0:(λc=>c≠5+2*s.rest.length/\c≠6+2*s.rest.length) 0:=⟨by omega,by omega⟩
 have am:FrM B (dye m I (6+2*s.rest.length)) (w2.setCell ⟨G,13,none⟩ (.slice (some ⟨I,0,none⟩) (s.top.kids.len+1) r)) (q+1) s.rest.length G {s.top with kids:=s.top.kids.app (.one h k e)}:=by
  refine⟨al,(R G Z (by omega)).trans ac,?_,vn,vk,.slice (some ⟨I,0,none⟩) (s.top.kids.len+1) r,?_,o.strs c0 aj,o.parts c0 ak,?_⟩
  · show(s.top.kids.app (.one h k e)).len<=q+1
    rw[Pt.len_app];simp only[Pt.one,Pt.len];omega
  · exact d7 (j:=13) aa (.slice (some ⟨I,0,none⟩) (s.top.kids.len+1) r)
  · refine⟨cs++ey h M N O,⟨?_,?_⟩,?_⟩
    · show World.ownsRow _ _ _ _ _ (s.top.kids.app (.one h k e)).len _
      rw[Pt.len_app]
      refine⟨K.1,.inr ?_⟩
      rcases K.2 with⟨h0,-⟩ | ⟨g,cap,af,A,h2,h3,h4⟩
      · cases h0
      · refine⟨g,cap,af,A,h2,?_,h4⟩
        rw[Below.heap_setCell _ _ _ _ (λe=>by
         have e2:g=G:=e
         injection A with A;injection A with A;injection A with A
         exact ah (by rw[A,e2]))]
        exact h3
    · intro g E
      have:I=g:=by simpa[Value.ownBlock]using E
      subst this
      unfold dye;rw[if_pos rfl]
    · exact iI.app _ _ _ _ (iI.same o c0 _ _ Y) ⟨M,N,O,[],by simp[ey],o.strs c0 hn,o.parts c0 hk,o.parts c0 he,rfl⟩
 have ai:gZ B (dye m I (6+2*s.rest.length)) (w2.setCell ⟨G,13,none⟩ (.slice (some ⟨I,0,none⟩) (s.top.kids.len+1) r)) (q+1) ({s.top with kids:=s.top.kids.app (.one h k e)}::s.rest) (G::bs):=
  ⟨G,bs,rfl,am,hS.same o c0 (Nat.le_succ q) _ _ (λi hi=>⟨⟨by omega,by omega⟩,⟨by omega,by omega⟩⟩)⟩
 exact⟨dye m I (6+2*s.rest.length),G::bs,sv,dv,cv,{
  bb:=E.bb
  cx:=(o.2 bx (dX E.hx) (by rw[E.cx];omega)).1.trans E.cx
  hx:=(o.2 bx (dX E.hx) (by rw[E.cx];omega)).2.trans E.hx
  st:=E.st.same o ⟨by omega,by omega⟩
  fr:=ai
  df:=E.df.same o c0 ⟨by omega,by omega⟩
  cl:=E.cl.same o ⟨by omega,by omega⟩
  l1:=E.l1
  l2:=E.l2
  l3:=Nat.le_succ_of_le E.l3
  l4:=Nat.le_succ_of_le E.l4
  hB:=Nat.le_trans E.hB o.1
  ol:=λb U=>(o.2 b (AI U E.hB) (by rw[E.ol b U];omega)).1.trans (E.ol b U)}⟩
def New (w w':World)(b:Nat):Prop:=w.heap.size<=b/\b<w'.heap.size/\UnF w' b
def xQ (w:World)(r:Option (Bool×List By))(e:Ending)(w':World):Prop:=Below w.heap.size w w'/\match r with
 | none=>e=.returned (.tuple #[.agg #[.bool false,.slice none 0 0],.bool false])
 | some p=>∃v,e=.returned (.tuple #[.agg #[.bool p.1,v],.bool true])/\Strs (New w w') w' v (p.2.map mkB)
theorem gN {fn:Func}{k i:Tmp}{b:Nat}{x y:Value}{tmps:Array Value}{w:World}(h:fn.results=#[.cell k 54,.tmp i])(o:tmps.getD k undef=.pointer (some ⟨b,0,none⟩))(r:w.heap[b]? =some (.cells #[x,y] 54 (0,0))):
 (results fn tmps).run Tryz.prog w=.ok (.tuple #[.agg #[x,y],tmps.getD i undef]) w:=by
 have c:=λj=>dW r j
 have c0:w.cell? ⟨b,0,none⟩=some x:=c 0
 have c1:w.cell? ⟨b,1,none⟩=some y:=c 1
 have m:tmps[k]?.getD undef=.pointer (some ⟨b,0,none⟩):=by rw[<-o];simp
 clear c r o
 simp[results,h,m,go_sem,c0,c1]
theorem nB {fn:Func}{k:Tmp}{b:Nat}{x y:Value}{tmps:Array Value}{w:World}(h:fn.results=#[.cell k 54])(o:tmps.getD k undef=.pointer (some ⟨b,0,none⟩))(r:w.heap[b]? =some (.cells #[x,y] 54 (0,0))):
 (results fn tmps).run Tryz.prog w=.ok (.agg #[x,y]) w:=by
 have c:=λj=>dW r j
 have c0:w.cell? ⟨b,0,none⟩=some x:=c 0
 have c1:w.cell? ⟨b,1,none⟩=some y:=c 1
 have m:tmps[k]?.getD undef=.pointer (some ⟨b,0,none⟩):=by rw[<-o];simp
 clear c r o
 simp[results,h,m,go_sem,c0,c1]
theorem ji {w:World}{b:Nat}{cs:Array Value}{T:TypeId}(h:w.heap[b]? =some (.cells cs T (0,0)))(m:cs.size=2)(x y:Value):((w.setCell ⟨b,0,none⟩ x).setCell ⟨b,1,none⟩ y).heap[b]? =some (.cells #[x,y] T (0,0)):=by
 rw[d7 (j:=1) (d7 (j:=0) h x) y]
 obtain⟨l⟩:=cs
 match l,m with
 | [a,c],_=>rfl
theorem nr {w m:World}{v:Value}{l:List ByteArray}(h:Strs (λb=>w.heap.size+1<=b/\b<m.heap.size/\UnF m b) m v l)(x y:Value):Strs (New w ((m.setCell ⟨w.heap.size,0,none⟩ x).setCell ⟨w.heap.size,1,none⟩ y)) ((m.setCell ⟨w.heap.size,0,none⟩ x).setCell ⟨w.heap.size,1,none⟩ y) v l:=by
 have A:∀b,w.heap.size+1<=b->((m.setCell ⟨w.heap.size,0,none⟩ x).setCell ⟨w.heap.size,1,none⟩ y).heap[b]? =m.heap[b]? :=λb o=>by
  have r:b≠w.heap.size:=by omega
  rw[Below.heap_setCell _ _ _ _ r,Below.heap_setCell _ _ _ _ r]
 exact(h.kept (λb o=>A b o.1)).mono (λb o=>⟨by have:=o.1;omega,by simpa[World.setCell]using o.2.1,o.2.2.same (A b o.1)⟩)
theorem wA (s:ByteArray)(E:s.size<=16777216)(w:World)(U:ByteArray)(r:(⟨(Lib.trimPrefix s.data.toList [36]).toArray⟩:ByteArray)=U)(o:Lib.hasPrefix s.data.toList [36]=true)(G:U.toList.isEmpty=true):
 Calls Tryz.prog 126 #[.string s] w (xQ w (some (true,[]))):=by
 have m:=Tryz.strings_CutPrefix s ⟨#[36]⟩
 rw[show(⟨#[36]⟩:ByteArray).data.toList=[36]from rfl,r,o]at m
 have A:=AF ((AH w.heap.size w).alloc (AG _) (.cells #[.bool true,.slice none 0 0] 54))
 go_enter Tryz.func126,Tryz.ntmps126
 go_wp2_with fail
 refine(m _).mono ?_
 rintro e w1 ⟨rfl,rfl⟩
 go_wp2_with fail
 exact bodyPost_ret (gN rfl rfl (heap_alloc_new w _)) rfl ⟨A.out,_,rfl,Strs.nil _ _⟩
theorem wB (s:ByteArray)(E:s.size<=16777216)(w:World)(U:ByteArray)(r:(⟨(Lib.trimPrefix s.data.toList [36]).toArray⟩:ByteArray)=U)(o:Lib.hasPrefix s.data.toList [36]=false)(G:(s.toList==[46])=true):
 Calls Tryz.prog 126 #[.string s] w (xQ w (some (false,[]))):=by
 have m:=Tryz.strings_CutPrefix s ⟨#[36]⟩
 rw[show(⟨#[36]⟩:ByteArray).data.toList=[36]from rfl,r,o]at m
 have A:=AF ((AH w.heap.size w).alloc (AG _) (.cells #[.bool false,.slice none 0 0] 54))
 go_enter Tryz.func126,Tryz.ntmps126
 go_wp2_with fail
 refine(m _).mono ?_
 rintro e w1 ⟨rfl,rfl⟩
 go_wp2_with fail
 exact bodyPost_ret (gN rfl rfl (heap_alloc_new w _)) rfl ⟨A.out,_,rfl,Strs.nil _ _⟩
theorem ur (s:ByteArray)(O:s.size<=16777216)(w:World)(T V:ByteArray)(b:Bool)(A:(⟨(Lib.trimPrefix s.data.toList [36]).toArray⟩:ByteArray)=T)(m:Lib.hasPrefix s.data.toList [36]=b)(G:b=true->T.toList.isEmpty=false)(E:b=false->(s.toList==[46])=false)
 (r:(⟨(Lib.trimPrefix T.data.toList [46]).toArray⟩:ByteArray)=V) (o:Lib.hasPrefix T.data.toList [46]=false):
 Calls Tryz.prog 126 #[.string s] w (xQ w none):=by
 have J:=Tryz.strings_CutPrefix s ⟨#[36]⟩
 rw[show(⟨#[36]⟩:ByteArray).data.toList=[36]from rfl,A,m]at J
 have I:=Tryz.strings_CutPrefix T ⟨#[46]⟩
 rw[show(⟨#[46]⟩:ByteArray).data.toList=[46]from rfl,r,o]at I
 have N:=AF ((AH w.heap.size w).alloc (AG _) (.cells #[.bool false,.slice none 0 0] 54))
 cases b
 all_goals
  have M:=G
  have K:=E
  simp only[forall_const,Bool.true_eq_false,Bool.false_eq_true,false_implies]at M K
  clear G E A m r o
  go_enter Tryz.func126,Tryz.ntmps126
  go_wp2_with fail
  refine(J _).mono ?_
  rintro e w1 ⟨rfl,rfl⟩
  go_wp2_with fail
  refine(I _).mono ?_
  rintro e w1 ⟨rfl,rfl⟩
  go_wp2_with fail
  exact bodyPost_ret (gN rfl rfl (heap_alloc_new w _)) rfl ⟨N.out,rfl⟩
theorem o5 (U:ByteArray)(N:U.size<=16777216)(l:List By)(I:eV (·==46) (bl U)=l)(w:World)(A:Sh w):
 Calls Tryz.prog 151 #[.string U,.string ⟨#[46]⟩] w λe w'=>e=.returned (.slice (some ⟨w.heap.size,0,none⟩) l.length l.length)/\Below w.heap.size w w'/\w.heap.size<w'.heap.size/\Strs (New w w') w' (.slice (some ⟨w.heap.size,0,none⟩) l.length l.length) (l.map mkB):=by
 obtain⟨m,K⟩:=A
 have r:=qP 46 U
 have o:=rW 46 _ U rfl
 rw[I]at o
 have E:l.length=Lib.countB U ⟨#[46]⟩+1:=by rw[<-o,List.length_map,r]
 have M:Lib.splitB ⟨#[46]⟩ 0 (Lib.countB U ⟨#[46]⟩) U=l.map mkB:=by
  rw[<-o,List.map_map]
  conv=>lhs;rw[<-List.map_id (Lib.splitB ⟨#[46]⟩ 0 (Lib.countB U ⟨#[46]⟩) U)]
  apply List.map_congr_left
  intro x _;exact(gW x).symm
 have G:l.length<=maxLen:=by rw[<-I];have:=kK (·==46) U;unfold maxLen;omega
 refine(Tryz.strings_Split U ⟨#[46]⟩ m w (by omega) K (AG 1)).mono ?_
 rintro e w' ⟨rfl,rfl⟩
 refine⟨by rw[E],(AH _ w).alloc (AG _) _,by simp,some ⟨w.heap.size,0,none⟩,l.length,by simp,by simp,G,λ_=>⟨w.heap.size,0,rfl,⟨AG _,by simp,dY (heap_alloc_new w _)⟩,λi s J=> ?_⟩⟩
 rw[dW (heap_alloc_new w _),M]
 rw[Nat.zero_add]
 simp only[List.getElem?_toArray,List.getElem?_map]at J ⊢
 rw[J];rfl
theorem rQ (s:ByteArray)(hs:s.size<=16777216)(w:World)(am:Sh w)(T V:ByteArray)(b:Bool)(hU:(⟨(Lib.trimPrefix s.data.toList [36]).toArray⟩:ByteArray)=T)(hh:Lib.hasPrefix s.data.toList [36]=b)(h1:b=true->T.toList.isEmpty=false)(h2:b=false->(s.toList==[46])=false)
 (hV:(⟨(Lib.trimPrefix T.data.toList [46]).toArray⟩:ByteArray)=V) (aj:V.size<=16777216) (hd:Lib.hasPrefix T.data.toList [46]=true):
 Calls Tryz.prog 126 #[.string s] w (xQ w (if ex (eV (·==46) (bl V))then some (b,eV (·==46) (bl V))else none)):=by
 have CP:=Tryz.strings_CutPrefix s ⟨#[36]⟩
 rw[show(⟨#[36]⟩:ByteArray).data.toList=[36]from rfl,hU,hh]at CP
 have CQ:=Tryz.strings_CutPrefix T ⟨#[46]⟩
 rw[show(⟨#[46]⟩:ByteArray).data.toList=[46]from rfl,hV,hd]at CQ
 obtain⟨l,hl⟩:∃l,eV (·==46) (bl V)=l:=⟨_,rfl⟩
 have ae:∀x∈l.map mkB,x.size<=140737488351232:=by
  intro x hx
  obtain⟨y,hy,rfl⟩:=List.mem_map.1 hx
  rw[<-hl]at hy
  have:=nt _ _ y hy
  have h3:=fi y
  have h4:=fH V
  omega
 have aq:l.length<=16777217:=by rw[<-hl];have:=kK (·==46) V;omega
 rw[hl]
 have Y:bls (l.map mkB)=l:=ze l
 have ab:Below w.heap.size w (w.alloc (.cells #[.bool b,.slice none 0 0] 54)):=(AH w.heap.size w).alloc (AG _) _
 have SP:=AF (o5 V aj l hl (w.alloc (.cells #[.bool b,.slice none 0 0] 54)) (am.below ab))
 have ag:=heap_alloc_new w (.cells #[.bool b,.slice none 0 0] 54)
 have HB:=AF ab
 have ai:(w.alloc (.cells #[.bool b,.slice none 0 0] 54)).heap.size=w.heap.size+1:=by simp
 have ac:=AF (λ(W:World) (v:Value) (h:Strs (New w W) W v (l.map mkB))=>kR (New w W) (l.map mkB) (by simp;omega) ae v W h (λb m=>m.2.1))
 rw[Y]at ac
 have ap:=AF ag
 have ad:=AF ai
 clear ae Y hl ab ag ai hs aj
 cases hv:ex l
 all_goals
  rw[hv]at ac
  clear hv
  cases b
  all_goals
   have f1:=h1
   have f2:=h2
   simp only[forall_const,Bool.true_eq_false,Bool.false_eq_true,false_implies]at f1 f2
   clear h1 h2 hU hh hV hd
   go_enter Tryz.func126,Tryz.ntmps126
   go_wp2_with fail
   refine(CP _).mono ?_
   rintro e w1 ⟨rfl,rfl⟩
   go_wp2_with fail
   refine(CQ _).mono ?_
   rintro e w1 ⟨rfl,rfl⟩
   go_wp2_with fail
   refine SP.out.mono ?_
   rintro e w2 ⟨rfl,M,ah,o⟩
   rw[ad.out]at M ah o
   rw[ad.out]
   have K:=(M.block w.heap.size (by omega)).trans ap.out
   have q1:w2.cell? ⟨w.heap.size,1,none⟩=some (.slice none 0 0):=by rw[dW K];rfl
   have qz:=dY K
   have aa:Below w.heap.size w w2:=HB.out.trans (M.mono (by omega))
   have G:=d7 (j:=1) K (.slice (some ⟨w.heap.size+1,0,none⟩) l.length l.length)
   have r:Below w.heap.size w (w2.setCell ⟨w.heap.size,1,none⟩ (.slice (some ⟨w.heap.size+1,0,none⟩) l.length l.length)):=aa.setCell (p:=⟨w.heap.size,1,none⟩) (AG _) _
   obtain⟨J,N⟩:∃J,w2.setCell ⟨w.heap.size,1,none⟩ (.slice (some ⟨w.heap.size+1,0,none⟩) l.length l.length)=J:=⟨_,rfl⟩
   replace o:Strs (λb=>w.heap.size+1<=b/\b<w2.heap.size/\UnF w2 b) w2 (.slice (some ⟨w.heap.size+1,0,none⟩) l.length l.length) (l.map mkB):=o.mono (λb m=>⟨by have:=m.1;rw[ad.out]at this;exact this,m.2⟩)
   have I:eL (λb=>w.heap.size+1<=b/\b<w2.heap.size/\UnF w2 b) w2 J:=by
    intro b m
    rw[<-N]
    exact Below.heap_setCell _ _ _ _ (λe=>by have e2:b=w.heap.size:=e;have:=m.1;omega)
   have af:J.heap.size=w2.heap.size:=by rw[<-N];simp[World.setCell]
   have U:Strs (New w J) J (.slice (some ⟨w.heap.size+1,0,none⟩) l.length l.length) (l.map mkB):=(o.kept I).mono (λb m=>⟨by have:=m.1;omega,by rw[af];exact m.2.1,m.2.2.same (I b m)⟩)
   have O:Strs (λb=>w.heap.size+1<=b/\b<J.heap.size/\UnF J b) J (.slice (some ⟨w.heap.size+1,0,none⟩) l.length l.length) (l.map mkB):=(o.kept I).mono (λb m=>⟨m.1,by rw[af];exact m.2.1,m.2.2.same (I b m)⟩)
   rw[N]at G r
   have r1:J.cell? ⟨w.heap.size,1,none⟩=some (.slice (some ⟨w.heap.size+1,0,none⟩) l.length l.length):=by rw[dW G];rfl
   have an:=dX G
   clear M K o I aa
   go_wp2_with fail
   refine(ac.out J _ U).mono ?_
   rintro e w4 ⟨rfl,A⟩
   have E:=(A.block w.heap.size an).trans G
   have d0:=dW E 0
   have d1:=dW E 1
   replace d0:w4.cell? ⟨w.heap.size,0,none⟩=_:=d0
   replace d1:w4.cell? ⟨w.heap.size,1,none⟩=some (.slice (some ⟨w.heap.size+1,0,none⟩) l.length l.length):=d1
   have dz:=dY E
   have Z:Below w.heap.size w w4:=r.trans (A.mono r.size)
   have R:Strs (λb=>w.heap.size+1<=b/\b<w4.heap.size/\UnF w4 b) w4 (.slice (some ⟨w.heap.size+1,0,none⟩) l.length l.length) (l.map mkB):=(O.kept (λb m=>A.block b m.2.1)).mono (λb m=>⟨m.1,AI m.2.1 A.size,m.2.2.same (A.block b m.2.1)⟩)
   clear N G r1 U O A r q1 qz
   have ao:=AF E
   have al:=AF Z
   have ak:=AF R
   clear E Z R
   simp at d0
   go_wp2_with fail
   refine bodyPost_ret (gN rfl rfl (ji ao.out rfl _ _)) rfl ?_
   first
   | exact⟨(al.out.setCell (p:=⟨w.heap.size,0,none⟩) (AG _) _).setCell (p:=⟨w.heap.size,1,none⟩) (AG _) _,rfl⟩
   | refine⟨(al.out.setCell (p:=⟨w.heap.size,0,none⟩) (AG _) _).setCell (p:=⟨w.heap.size,1,none⟩) (AG _) _,_,rfl,?_⟩
     exact nr ak.out _ _
theorem rR (s:ByteArray)(U:s.size<=16777216)(w:World)(V:Sh w):Calls Tryz.prog 126 #[.string s] w (xQ w (kH (bl s))):=by
 have R:∀T:ByteArray,T.toList=T.data.toList:=λT=>ByteArray.toList_eq T
 have W:=o9 36 s.data.toList
 have G:=yu 36 s.data.toList
 have O:∀(b:Bool) (T:By),s.data.toList.head? =some 36/\b=true/\s.data.toList.drop 1=T/\T≠[]\/s.data.toList.head?≠some 36/\b=false/\s.data.toList=T/\T≠[46]->
  Calls Tryz.prog 126 #[.string s] w (xQ w (vF b T)):=by
  intro b T K
  have aa:s.data.toList.length=s.size:=by simp
  have ab:T.length<=16777216:=by
   rcases K with⟨-,-,h,-⟩ | ⟨-,-,h,-⟩
   · rw[<-h];simp;omega
   · rw[<-h];omega
  have hU:(⟨(Lib.trimPrefix s.data.toList [36]).toArray⟩:ByteArray)=mkB T:=by
   rw[G]
   rcases K with⟨m,-,A,-⟩ | ⟨m,-,A,-⟩
   · rw[if_pos m,A];rfl
   · rw[if_neg m,A];rfl
  have hh:Lib.hasPrefix s.data.toList [36]=b:=by
   rw[W]
   rcases K with⟨m,N,A,-⟩ | ⟨m,N,A,-⟩
   · rw[N];simpa using m
   · rw[N];simpa using m
  have m:b=true->(mkB T).toList.isEmpty=false:=by
   intro M
   rcases K with⟨-,-,-,h⟩ | ⟨-,h,-,-⟩
   · rw[R];show T.isEmpty=false;cases T with | nil=>exact absurd rfl h | cons a r=>rfl
   · rw[h]at M;cases M
  have A:b=false->(s.toList==[46])=false:=by
   intro M
   rcases K with⟨-,h,-,-⟩ | ⟨-,-,h,I⟩
   · rw[h]at M;cases M
   · rw[R,h];simpa using I
  have Z:=o9 46 T
  have J:=yu 46 T
  by_cases E:T.head? =some 46
  · have hw:vF b T=if ex (eV (·==46) (bl (mkB (T.drop 1))))then some (b,eV (·==46) (bl (mkB (T.drop 1))))else none:=by
     cases T with
     | nil=>simp at E
     | cons a r=>
       simp at E;subst E
       rfl
    rw[hw]
    refine rQ s U w V (mkB T) (mkB (T.drop 1)) b hU hh m A ?_ (by rw[fi];simp;omega) ?_
    · show(⟨(Lib.trimPrefix T [46]).toArray⟩:ByteArray)=_
      rw[J,if_pos E];rfl
    · show Lib.hasPrefix T [46]=true
      rw[Z];simpa using E
  · have hw:vF b T=none:=by
     unfold vF
     split
     · simp at E
     · rfl
    rw[hw]
    refine ur s U w (mkB T) (mkB T) b hU hh m A ?_ ?_
    · show(⟨(Lib.trimPrefix T [46]).toArray⟩:ByteArray)=_
      rw[J,if_neg E];rfl
    · show Lib.hasPrefix T [46]=false
      rw[Z];simpa using E
 show Calls Tryz.prog 126 #[.string s] w (xQ w (kH s.data.toList))
 unfold kH
 split
 · rename_i o
   refine wB s U w s ?_ ?_ ?_
   · rw[G,if_neg (by rw[o];decide)]
   · rw[W,o];rfl
   · rw[R,o];rfl
 · rename_i o
   refine wA s U w (mkB []) ?_ ?_ ?_
   · rw[G,o];rfl
   · rw[W,o];rfl
   · rw[R];rfl
 · rename_i r hr o
   exact O true r (.inl ⟨by rw[o];rfl,rfl,by rw[o];rfl,λe=>hr e⟩)
 · rename_i m A N
   refine O false _ (.inr ⟨?_,rfl,rfl,m⟩)
   intro I
   cases Y:s.data.toList with
   | nil=>rw[Y]at I;cases I
   | cons a r=>
     rw[Y]at I
     simp at I;subst I
     exact N r Y
def Ab (w:World)(at_:Nat)(r:Option (Bool×List By))(e:Ending)(w':World):Prop:=Below w.heap.size w w'/\match r with
 | none=>e=.panicked [{v:=.iface 84 (.agg #[.int .i64 190,.int .i64 (at_:Nat)]),recovered:=false}]
 | some p=>∃v,e=.returned (.agg #[.bool p.1,v])/\Strs (New w w') w' v (p.2.map mkB)
theorem iz (s:ByteArray)(Z:s.size<=16777216)(at_:Nat)(aa:at_<=16777216)(w:World)(I:Sh w):Calls Tryz.prog 87 #[.string s,.int .i64 (at_:Nat)] w (Ab w at_ (kH (bl s))):=by
 have J:Below w.heap.size w (w.alloc (.cells #[.bool false,.slice none 0 0] 54)):=(AH w.heap.size w).alloc (AG _) _
 have M:=AF (rR s Z (w.alloc (.cells #[.bool false,.slice none 0 0] 54)) (I.below J))
 have Y:=AF J
 have N:=AF (heap_alloc_new w (.cells #[.bool false,.slice none 0 0] 54))
 have A:Hid ((w.alloc (.cells #[.bool false,.slice none 0 0] 54)).heap.size=w.heap.size+1):=by unfold Hid;simp
 clear J
 cases hw:kH (bl s)with
 | none=>
   rw[hw]at M
   clear hw I
   go_enter Tryz.func87,Tryz.ntmps87
   go_wp2_with fail
   refine M.out.mono ?_
   rintro e w2 ⟨m,rfl⟩
   rw[A.out]at m
   have o:=AF ((Y.out.trans (m.mono (by omega))).alloc (by have:=m.size;rw[A.out]at this;omega) (.cells #[.bool false,.slice none 0 0] 54))
   clear m
   go_wp2_with fail
   exact⟨rfl,o.out,rfl⟩
 | some p=>
   rw[hw]at M
   clear hw I
   go_enter Tryz.func87,Tryz.ntmps87
   go_wp2_with fail
   refine M.out.mono ?_
   rintro e w2 ⟨m,v,rfl,E⟩
   obtain⟨L,R⟩:∃L,p.2.map mkB=L:=⟨_,rfl⟩
   rw[R]at E
   have HL:=AF R
   clear R
   have ⟨va,vc,hv,_⟩:=E
   subst hv
   rw[A.out]at m
   have O:=m.size
   rw[A.out]at O
   have o:Below w.heap.size w (w2.alloc (.cells #[.bool p.1,.slice va L.length vc] 54)):=(Y.out.trans (m.mono (by omega))).alloc (by omega) _
   have r:(w2.alloc (.cells #[.bool p.1,.slice va L.length vc] 54)).heap[w.heap.size]? =some (.cells #[.bool false,.slice none 0 0] 54 (0,0)):=
    (Below.heap_alloc _ _ _ (by omega)).trans ((m.block w.heap.size (by omega)).trans N.out)
   have G:Strs (λb=>w.heap.size+1<=b/\b<(w2.alloc (.cells #[.bool p.1,.slice va L.length vc] 54)).heap.size/\UnF (w2.alloc (.cells #[.bool p.1,.slice va L.length vc] 54)) b) (w2.alloc (.cells #[.bool p.1,.slice va L.length vc] 54)) (.slice va L.length vc) L:=
    (E.kept (λb K=>Below.heap_alloc _ _ _ K.2.1)).mono (λb K=>⟨by have:=K.1;rw[A.out]at this;omega,by have:=K.2.1;simp;omega,K.2.2.same (Below.heap_alloc _ _ _ K.2.1)⟩)
   have q0:(w2.alloc (.cells #[.bool p.1,.slice va L.length vc] 54)).cell? ⟨w.heap.size,0,none⟩=some (.bool false):=by rw[dW r];rfl
   have q1:(w2.alloc (.cells #[.bool p.1,.slice va L.length vc] 54)).cell? ⟨w.heap.size,1,none⟩=some (.slice none 0 0):=by rw[dW r];rfl
   have qz:=dY r
   have W:=AF o
   have V:=AF r
   have U:=AF G
   clear o r G E m
   go_wp2_with fail
   refine bodyPost_ret (nB rfl rfl (ji V.out rfl _ _)) rfl ?_
   exact⟨(W.out.setCell (p:=⟨w.heap.size,0,none⟩) (AG _) _).setCell (p:=⟨w.heap.size,1,none⟩) (AG _) _,_,rfl,by rw[HL.out];exact nr U.out _ _⟩
theorem fW {P:Program}(w:World){t tx:TypeId}{ms:Array (String×TypeId)}(v:Value)(m:P.underlying t=some (.interface ms)):
 (binOp .eql t (.iface tx v) .nilIface).run P w=.ok (.bool false) w:=by
 have h:∀d:Nat,(Op.equalIn (d+1) t (.iface tx v) .nilIface).run P w=.ok false w:=λd=>by
  simp[Op.equalIn,run_underlying m]
 simp only[binOp]
 simp[Op.equal,Op.maxDepth,h 9999]
theorem kf (v:Value)(w:World):(Instr.typeAssert (.iface 84 v) 20 84 true).run Tryz.prog w=.ok (.tuple #[v,.bool true]) w:=by
 simp[Instr.typeAssert,run_underlying Tryz.underlying84,Result.andThen,go_sem]
theorem pq (r A:Addr)(w:World):
 CallsD Tryz.prog 43 #[.pointer (some r),.pointer (some A)] .returning w λe o w'=>e=.returned (.tuple #[])/\o=.returning/\w'=w:=by
 refine callsD_of_wpS Tryz.func43 rfl λG cs E=> ?_
 simp only[Tryz.ntmps43,List.size_toArray,List.length_cons,List.length_nil,Nat.reduceAdd,Nat.reduceSub,Array.replicate_succ,Array.replicate_zero,List.push_toArray,List.append_toArray,List.nil_append,List.cons_append]
 apply wpS_seq
 apply wpS_region
 simp[wpOpsS,go_sem,recoverD,E,Exit.thenS]
 refine wpS_of_wp ?_
 generalize m:(λe I w'=>bodyPostS _ _ _ _ _ e I _ w')=Q
 have J:=AF m
 clear m
 go_wp2_with fail
 rw[<-J.out]
 refine⟨rfl,.returning,?_,.tuple #[],?_,rfl,rfl,rfl⟩
 · cases G;simp_all
 · simp[results,Tryz.results43]
def zt (o r:Nat)(n p:Int)(w w':World):Prop:=
 w'.heap[o]? =some (.cells #[.slice none 0 0,.slice none 0 0] 25 (0,0))/\
 (∃m,w.heap.size<=m/\w'.heap[r]? =some (.cells #[.iface 93 (.pointer (some ⟨m,0,none⟩))] 64 (0,0))/\w'.heap[m]? =some (.cells #[.string ⟨#[80,97,114,115,101]⟩,.int .i64 p,.iface 37 (.int .i64 n)] 95 (0,0)))/\
 w'.os=w.os/\w'.tape=w.tape/\w'.output=w.output/\w.heap.size<=w'.heap.size/\∀b,b<w.heap.size->b≠o->b≠r->w'.heap[b]? =w.heap[b]?
theorem nL (m o:Nat)(A:m≠o)(I K J:Value)(n p:Int)(w:World)(r:w.heap[m]? =some (.cells #[I,K] 25 (0,0)))(E:w.heap[o]? =some (.cells #[J] 64 (0,0))):
 CallsD Tryz.prog 43 #[.pointer (some ⟨m,0,none⟩),.pointer (some ⟨o,0,none⟩)] (.panicking [{v:=.iface 84 (.agg #[.int .i64 n,.int .i64 p]),recovered:=false}]) w λe V w'=>
  e=.returned (.tuple #[])/\V=.panicking [{v:=.iface 84 (.agg #[.int .i64 n,.int .i64 p]),recovered:=true}]/\zt m o n p w w':=by
 have N:=λw=>fW (P:=Tryz.prog) w (tx:=84) (.agg #[.int .i64 n,.int .i64 p]) Tryz.underlying20
 have O:=kf (.agg #[.int .i64 n,.int .i64 p])
 have c0:w.cell? ⟨m,0,none⟩=some I:=by rw[dW r];rfl
 have c1:w.cell? ⟨m,1,none⟩=some K:=by rw[dW r];rfl
 have d0:w.cell? ⟨o,0,none⟩=some J:=by rw[dW E];rfl
 have fz:=dY r
 have fe:=dY E
 have Y:=dX r
 have Z:=dX E
 have HT:=AF r
 have HE:=AF E
 clear r E
 refine callsD_of_wpS Tryz.func43 rfl λc₀ cs G=> ?_
 simp only[Tryz.ntmps43,List.size_toArray,List.length_cons,List.length_nil,Nat.reduceAdd,Nat.reduceSub,Array.replicate_succ,Array.replicate_zero,List.push_toArray,List.append_toArray,List.nil_append,List.cons_append]
 apply wpS_seq
 apply wpS_region
 simp[wpOpsS,go_sem,recoverD,G,Exit.thenS]
 refine wpS_of_wp ?_
 generalize R:(λe a' w'=>bodyPostS _ _ _ _ _ e a' _ w')=Q
 have HQ:=AF R
 have HU:=AF G
 clear R G
 go_wp2_with fail
 have n1:¬m=w.heap.size:=by omega
 have n2:¬m=w.heap.size+1:=by omega
 have n3:¬o=w.heap.size:=by omega
 have n4:¬o=w.heap.size+1:=by omega
 have M:¬o=m:=λe=>A e.symm
 go_region
 all_goals
  show Q Exit.normal _ _
  rw[<-HQ.out]
  refine⟨rfl,_,rfl,.tuple #[],by simp[results,Tryz.results43],rfl,rfl,?_,⟨w.heap.size+1,by omega,?_,?_⟩,rfl,rfl,rfl,?_,λb hb U h2=> ?_⟩
  · show(World.alloc (World.alloc _ _) _).heap[m]? =_
    rw[Below.heap_alloc _ _ _ (by simp[World.setCell];omega),Below.heap_alloc _ _ _ (by simp[World.setCell];omega),Below.heap_setCell _ _ _ _ A]
    exact ji HT.out rfl _ _
  · show(World.alloc (World.alloc _ _) _).heap[o]? =_
    rw[Below.heap_alloc _ _ _ (by simp[World.setCell];omega),Below.heap_alloc _ _ _ (by simp[World.setCell];omega)]
    exact d7 (j:=0) ((Below.heap_setCell _ _ _ _ M).trans ((Below.heap_setCell _ _ _ _ M).trans HE.out)) _
  · show(World.alloc (World.alloc _ _) _).heap[_]? =_
    have:=heap_alloc_new (World.alloc (((w.setCell ⟨m,0,none⟩ (.slice none 0 0)).setCell ⟨m,1,none⟩ (.slice none 0 0)).setCell ⟨o,0,none⟩ (.iface 93 (.pointer (some ⟨w.heap.size+1,0,none⟩)))) (.cells #[.int .i64 n,.int .i64 p] 84)) (.cells #[.string ⟨#[80,97,114,115,101]⟩,.int .i64 p,.iface 37 (.int .i64 n)] 95)
    have W:(World.alloc (((w.setCell ⟨m,0,none⟩ (.slice none 0 0)).setCell ⟨m,1,none⟩ (.slice none 0 0)).setCell ⟨o,0,none⟩ (.iface 93 (.pointer (some ⟨w.heap.size+1,0,none⟩)))) (.cells #[.int .i64 n,.int .i64 p] 84)).heap.size=w.heap.size+1:=by simp[World.setCell]
    rw[W]at this
    exact this
  · show w.heap.size<=(World.alloc (World.alloc _ _) _).heap.size
    simp[World.setCell];omega
  · show(World.alloc (World.alloc _ _) _).heap[b]? =_
    rw[Below.heap_alloc _ _ _ (by simp[World.setCell];omega),Below.heap_alloc _ _ _ (by simp[World.setCell];omega),Below.heap_setCell _ _ _ _ h2,Below.heap_setCell _ _ _ _ U,Below.heap_setCell _ _ _ _ U]
end Go.Proofs.YtepcpgdfbaklfaaGreatDoor
