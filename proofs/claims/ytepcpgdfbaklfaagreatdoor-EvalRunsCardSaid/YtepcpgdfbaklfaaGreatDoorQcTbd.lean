/- Contracts of strings.Builder at this program, with the frame that reaches above the builder; strings.Join between blanks. The condition: what is held and what is written together take at most 2 to the 47th bytes. -/
import Derived.Test.YtepcpgdfbaklfaaGreatDoorQcLibv
import Derived.Lib.BufferKept
set_option maxRecDepth 100000
set_option maxHeartbeats 40000000
set_option linter.unusedVariables false
namespace Go.Proofs.YtepcpgdfbaklfaaGreatDoor
open Go.RowKit Go.Shelf
def Bdf (B b:Nat)(l:By)(w:World):Prop:=Lib.IsBuilderF 136 5 B b (Lib.byteCells l) w
def Wr (B b:Nat)(w w':World):Prop:=Below B w w'/\Lib.OthersKept 5 (some b) w w'
theorem Wr.refl (B b:Nat)(w:World):Wr B b w w:=⟨AH B w,Lib.OthersKept.refl _ _ w⟩
theorem Wr.trans {B b:Nat}{x y z:World}(h:Wr B b x y)(k:Wr B b y z):Wr B b x z:=⟨h.1.trans k.1,h.2.trans k.2⟩
theorem Wr.below {B b:Nat}{w w':World}(h:Below w.heap.size w w')(hB:B<=w.heap.size):Wr B b w w':=⟨h.mono hB,Lib.OthersKept.below (Lib.OthersKept.refl _ _ w) h⟩
theorem Wr.alloc {B b:Nat}(w:World)(o:Obj)(hB:B<=w.heap.size):Wr B b w (w.alloc o):=Wr.below ((AH _ w).alloc (AG _) o) hB
theorem Wr.drew {B b:Nat}(w:World):Wr B b w w.drew:=⟨⟨rfl,rfl,rfl,AG _,λ_ _=>rfl⟩,Lib.OthersKept.drew (Lib.OthersKept.refl _ _ w)⟩
theorem Wr.size {B b:Nat}{w w':World}(h:Wr B b w w'):w.heap.size<=w'.heap.size:=h.1.size
theorem Wr.block {B b:Nat}{w w':World}(h:Wr B b w w'){k:Nat}{cs:Array Value}{T:TypeId}{fz:Nat×Nat}(o:w.heap[k]? =some (.cells cs T fz))(m:k≠b)(r:T≠5):w'.heap[k]? =some (.cells cs T fz):=
 h.2 k _ o (λe=>m (by injection e)) (λc f e=>r (by injection e))
theorem Bdf.lt {B b:Nat}{l:By}{w:World}(h:Bdf B b l w):B<=b/\b<w.heap.size:=by
 rcases h with⟨o,v,m,-⟩ | ⟨o,v,m,-⟩ <;> exact⟨o,dX m⟩
theorem Bdf.below {B b:Nat}{l:By}{w w':World}(h:Bdf B b l w)(E:Below w.heap.size w w'):Bdf B b l w':=by
 have step:∀p,Lib.BuilderAtF 136 5 B b p (Lib.byteCells l) w->Lib.BuilderAtF 136 5 B b p (Lib.byteCells l) w':=by
  rintro p ⟨hB,v,G,N,M⟩
  refine⟨hB,v,(E.block _ (dX G)).trans G,?_,M⟩
  obtain⟨K,o⟩:=N
  refine⟨K,?_⟩
  rcases o with o | ⟨g,cap,r,fz,I,m,A,J⟩
  · exact .inl o
  · exact .inr ⟨g,cap,r,fz,I,m,(E.block _ (dX A)).trans A,J⟩
 exact h.imp (step _) (step _)
theorem Bdf.fresh (w:World):Bdf w.heap.size w.heap.size [] (w.alloc (.cells #[.pointer none,.slice none 0 0] 136)):=Lib.IsBuilderF.of (Lib.fresh_isBuilder _ _ w)
theorem eN (B b:Nat)(l:By)(s:ByteArray)(w:World)(h:Bdf B b l w)(m:l.length+s.size<=140737488355328)(o:B<=w.heap.size):
 Calls Tryz.prog 67 #[.pointer (some ⟨b,0,none⟩),.string s] w λe w'=>e=.returned (.tuple #[.int .i64 s.size,.nilIface])/\Bdf B b (l++bl s) w'/\Wr B b w w':=by
 refine(Any.Builder_WriteString_k Lb.n166 Lb.extra B b _ s w h (by rw[Lib.byteCells_length];exact m) o).mono ?_
 rintro e w' ⟨rfl,r,E,A⟩
 refine⟨rfl,.inr ?_,E,A⟩
 rw[Lib.byteCells_append]
 exact r
theorem ns (B b:Nat)(l:By)(w:World)(h:Bdf B b l w)(m:B<=w.heap.size):
 Calls Tryz.prog 69 #[.pointer (some ⟨b,0,none⟩)] w λe w'=>e=.returned (.string ⟨l.toArray⟩)/\Below B w w':=by
 refine(Any.Builder_String_any_k Lb.n169 Lb.extra B b l w h m).mono ?_
 rintro e w' ⟨rfl,-,o,-⟩
 exact⟨rfl,o⟩
def fh:List By->By
 | []=>[]
 | [x]=>x
 | x::r=>x++32::fh r
theorem sU:∀(l:List By),Lib.join l [32]=fh l
 | []=>by simp[Lib.join,fh]
 | [x]=>by simp[Lib.join,List.intercalate,fh]
 | x::y::r=>by
   have:=sU (y::r)
   unfold Lib.join at this ⊢
   rw[fh.eq_3 _ _ (by simp),←this]
   simp[List.intercalate]
theorem rj (m:List ByteArray)(A o c:Nat)(w:World)(I:∀(j:Nat) x,m[j]? =some x->w.cell? ⟨A,o+j,none⟩=some (.string x))(E:A<w.heap.size)(J:m.length<=16777216)(r:m.length<=c)(G:(fh (bls m)).length<=16777216):
 Calls Tryz.prog 111 #[.slice (some ⟨A,o,none⟩) m.length c,.string ⟨#[32]⟩] w λe w'=>e=.returned (.string (mkB (fh (bls m))))/\Below w.heap.size w w':=by
 have e:Lib.join (m.map (·.data.toList)) (⟨#[32]⟩:ByteArray).data.toList=fh (bls m):=sU _
 have:=Tryz.strings_Join A o c m ⟨#[32]⟩ w I E (by omega) r (by rw[e];omega)
 rw[e]at this
 exact this
attribute [local go_sem ↓] Go.wp_at_zero Go.wp_at_succ
theorem tJ (B A q:Nat)(l:By)(m:List ByteArray)(M o c:Nat)(w:World)(hb:Bdf B A l w)(aa:B<=w.heap.size)(hq:w.heap[q]? =some (.cells #[.pointer (some ⟨A,0,none⟩)] 133 (0,0)))
 (hc:∀(j:Nat) x,m[j]? =some x->w.cell? ⟨M,o+j,none⟩=some (.string x)) (V:M<w.heap.size) (hN:m.length<=16777216) (r:m.length<=c) (E:(fh (bls m)).length<=16777216) (ah:l.length<=16777216):
 Calls Tryz.prog 110 #[.slice (some ⟨M,o,none⟩) m.length c,.pointer (some ⟨q,0,none⟩)] w λe w'=>e=.returned (.tuple #[])/\Bdf B A (l++(bra++fh (bls m)++ket)) w'/\Wr B A w w':=by
 have Z:=dX hq
 have R:w.cell? ⟨q,0,none⟩=some (.pointer (some ⟨A,0,none⟩)):=by rw[dW hq];rfl
 have JC:Hid (∀W,Wr B A w W->Below w.heap.size w W->Calls Tryz.prog 111 #[.slice (some ⟨M,o,none⟩) m.length c,.string ⟨#[32]⟩] W λe w'=>e=.returned (.string (mkB (fh (bls m))))/\Below W.heap.size W w'):=λW _ hW=>
  rj m M o c W (λj x hx=>(hW.cell (p:=⟨M,o+j,none⟩) V).trans (hc j x hx)) (by have:=hW.size;omega) hN r E
 have HB:=AF hb
 have Y:=AF aa
 have af:(mkB (fh (bls m))).size<=16777216:=E
 have U:bl ((⟨#[123,123]⟩++mkB (fh (bls m)))++⟨#[125,125]⟩)=bra++fh (bls m)++ket:=by simp[bl,mkB,bra,ket]
 have ad:=AF U
 have N:((⟨#[123,123]⟩++mkB (fh (bls m)))++⟨#[125,125]⟩:ByteArray).size<=16777220:=by
  rw[ByteArray.size_append,ByteArray.size_append]
  have:(⟨#[123,123]⟩:ByteArray).size=2:=rfl
  have:(⟨#[125,125]⟩:ByteArray).size=2:=rfl
  omega
 have ab:=AF N
 clear hc hb hq V hN r E U N
 generalize mkB (fh (bls m))=J at*
 go_enter Tryz.func110,Tryz.ntmps110
 go_region_with (first
  | (go_at_call 111;refine(JC.out _ (Wr.drew _) ⟨rfl,rfl,rfl,AG _,λ_ _=>rfl⟩).mono ?_;rintro e w1 ⟨rfl,I⟩;have ag:w1.cell? ⟨q,0,none⟩=some (.pointer (some ⟨A,0,none⟩)):=(I.cell (p:=⟨q,0,none⟩) Z).trans R;have K:Hid (Below w.heap.size w w1):=(show Below w.heap.size w w.drew from⟨rfl,rfl,rfl,AG _,λ_ _=>rfl⟩).trans I;clear I R)
  | (go_at_call 67;refine(eN B A l _ _ (HB.out.below K.out) (by have:=ab.out;omega) (by have:=Y.out;have:=K.out.size;omega)).mono ?_;rintro e w2 ⟨rfl,G,O⟩;rw[ad.out]at G;have ae:=AF G;have ac:=AF O;clear G O))
 all_goals
  go_wp2_with fail
  go_end0
  exact⟨rfl,ae.out,(Wr.below K.out Y.out).trans ac.out⟩
def jD (n:Nat):Prop:=∀(t:Pt),t.cnt<n->∀(B m:Nat) (l:By) (v:Value) (w:World),t.sm->t.cnt<=16777216->l.length+(t.src false).length<=16777216->d8 (·<B) w v t->Bdf B m l w->B<=w.heap.size->
 Calls Tryz.prog 68 #[.pointer (some ⟨m,0,none⟩),v] w λe w'=>e=.returned (.tuple #[])/\Bdf B m (l++t.src false) w'/\Wr B m w w'
def zu (B:Nat)(a:Option Addr)(b o:Nat)(w:World)(k:Nat)(r:Bool):Prop:=
 match k with
 | 0=>r=false
 | j+1=>∃m:Nat,a=some ⟨b,o,none⟩/\b<B/\w.cell? ⟨b,o+j*8,none⟩=some (.int .u8 (m:Nat))/\r=decide (m=1)
def yM (k:Nat):Nat:=if k=1 then 1 else if k=2 then 2 else if k=3\/k=4 then 3 else if k=5 then 5 else 0
theorem uS (k:Nat):yM k∈[0,1,2,3,5]:=by
  unfold yM;repeat' split
  all_goals decide
theorem nT {k q:Nat}(h:yM k=q):(q=1->k=1)/\(q=2->k=2)/\(q=3->k=3\/k=4)/\(q=5->k=5)/\(q=0->k≠1/\k≠2/\k≠3/\k≠4/\k≠5):=by
 unfold yM at h
 (repeat' split at h) <;> (refine⟨?_,?_,?_,?_,?_⟩ <;> intro e <;> omega)
structure Al (P:Nat)(h:Hd)(vn vk ve:Value)(w:World):Prop where
 p0:w.cell? ⟨P,0,none⟩=some (.int .u8 (h.kind:Nat))
 p2:w.cell? ⟨P,2,none⟩=some (.string h.text)
 p3:w.cell? ⟨P,3,none⟩=some (.bool h.root)
 p4:w.cell? ⟨P,4,none⟩=some vn
 p5:w.cell? ⟨P,5,none⟩=some (.string h.name)
 p6:w.cell? ⟨P,6,none⟩=some vk
 p7:w.cell? ⟨P,7,none⟩=some ve
theorem Ap {P:Nat}{h:Hd}{o r A:Value}{w:World}(m:w.heap[P]? =some (.cells (eo h o r A) 56 (0,0))):Al P h o r A w:=
 ⟨by rw[dW m];rfl,by rw[dW m];rfl,by rw[dW m];rfl,by rw[dW m];rfl,by rw[dW m];rfl,by rw[dW m];rfl,by rw[dW m];rfl⟩
def eO (h:Hd)(k e:Pt)(m:Bool):By:=
 if h.kind=1 then(if m then js else[])++bl h.text
 else if h.kind=2 then bra++AJ h.root (bls h.names)++ket
 else if h.kind=5 then bra++(eY++32::bl h.name++32::AJ h.root (bls h.names))++ket
 else if h.kind=3\/h.kind=4 then
  bra++((if h.kind=4 then eu else kIf)++32::AJ h.root (bls h.names))++ket++Pt.src false k++(if e.isNil then[]else eI++Pt.src false e)++gx
 else[]
theorem fp (h:Hd)(k e r:Pt)(m:Bool):Pt.src m (.cons h k e r)=eO h k e m++Pt.src (decide (h.kind=1)) r:=rfl
noncomputable def fJ (n:Nat)(IH:Hid (jD n))(t:Pt)(hn:t.cnt<n+1)(B m:Nat)(l:By)(c:Nat)(w:World)(aC:Hid t.sm)(aO:t.cnt<=16777216)(am:Hid (l.length+(t.src false).length<=16777216))(h1:t.len<=c)(h2:c<=maxLen)(aR:B<=m/\m<w.heap.size)
 (aI:Hid (Bdf B m l w)) (HB:Hid (B<=w.heap.size)) (b o:Nat) (aP:t.len<=t.cnt):
 PSigma λP:Nat->Prop=>∀(a:Option Addr) (HR:Hid (t≠.nil->a=some ⟨b,o,none⟩/\b<B/\Row (·<B) w t b o)),(∀u,u∈[0,1,2,3,5]->P u)->
  Calls Tryz.prog 68 #[.pointer (some ⟨m,0,none⟩),.slice a t.len c] w λe w'=>e=.returned (.tuple #[])/\Bdf B m (l++t.src false) w'/\Wr B m w w':=by
 refine⟨?P,λa HR aq=> ?main⟩
 case main=>
  have ah:c<=9223372036854775807:=by unfold maxLen at h2;exact h2
  have ab:Hid (Wr B m w (w.alloc (.cells #[.pointer (some ⟨m,0,none⟩)] 133))):=Wr.alloc w _ HB.out
  have HQ:Hid ((w.alloc (.cells #[.pointer (some ⟨m,0,none⟩)] 133)).heap[w.heap.size]? =some (.cells #[.pointer (some ⟨m,0,none⟩)] 133 (0,0))):=heap_alloc_new w _
  have ap:=AF (aI.out.below ((AH _ w).alloc (AG _) (.cells #[.pointer (some ⟨m,0,none⟩)] 133)))
  go_enter Tryz.func68,Tryz.ntmps68
  go_wp2_with fail
  generalize aA:World.alloc w (.cells #[.pointer (some ⟨m,0,none⟩)] 133)=W1 at*
  clear aA
  go_loopw [11] (λi wr=>∃(k:Nat) (l':By) (U:Pt) (af:Bool),i=.int .i64 k/\k+U.len=t.len/\Hid (Bdf B m l' wr)/\Hid (Wr B m W1 wr)/\Hid (U≠.nil->a=some ⟨b,o,none⟩/\b<B/\Row (·<B) w U b (o+k*8))/\
   Hid U.sm/\U.cnt<=t.cnt/\Hid (l'++U.src af=l++t.src false)/\Hid (zu B a b o w k af)) (λi _=>t.len - (intOf i).toNat)
  case atStart=>exact⟨0,l,t,false,rfl,by omega,ap,Wr.refl _ _ _,by rw[Nat.zero_mul,Nat.add_zero];exact HR,aC,AG _,rfl,rfl⟩
  case round=>
   obtain⟨k,l',U,af,rfl,hk,R,N,aj,HS,ag,HE,HA⟩:=hrel
   cases U with
   | nil=>
     simp only[Pt.len]at hk
     have aQ:¬(k:Int)<(t.len:Int):=by omega
     have aH:Hid (l'=l++t.src false):=by have:=HE.out;unfold Hid;simpa[Pt.src]using this
     go_wp2_with fail
     go_end0
     exact⟨rfl,by rw[<-aH.out];exact R.out,ab.out.trans N.out⟩
   | cons h E J r=>
     obtain⟨rfl,M,G⟩:=aj.out (by simp)
     have ai:=AF (ab.out.trans N.out)
     have aa:=Row.kept (eL.of_below ai.out.1) _ _ _ M G
     obtain⟨⟨g0,g1,g2,g3,⟨vn,g4,V⟩,g5⟩,⟨ak,ck,g6,k1,k2,k3⟩,⟨ae,ce,g7,e1,e2,e3⟩,-⟩:=aa
     have al:=AF G.2.2.2
     have ao:=AF G.1.1
     simp only[Pt.len]at hk
     simp only[Pt.cnt]at ag
     have aw:=eD E
     have ax:=eD J
     have au:(k:Int)<(t.len:Int):=by omega
     obtain⟨ad,Y,Z,ac⟩:=HS.out
     obtain⟨s0,-⟩:=ad
     have O:Hid (wr.heap[w.heap.size]? =some (.cells #[.pointer (some ⟨m,0,none⟩)] 133 (0,0))):=N.out.block HQ.out (by omega) (by decide)
     have ay:=R.out.lt
     have ar:=dX O.out
     have I:B<=wr.heap.size:=by omega
     have aB:Hid (r≠.nil->some (⟨b,o,none⟩:Addr)=some ⟨b,o,none⟩/\b<B/\Row (·<B) w r b (o+(k+1)*8)):=λ_=>⟨rfl,M,by have:=al.out;rwa[show o+k*8+8=o+(k+1)*8 by omega]at this⟩
     have aF:Hid (l'.length+(eO h E J af).length<=16777216):=by
      have h1:=am.out
      have h2:=congrArg List.length HE.out
      rw[fp]at h2
      simp only[List.length_append]at h2
      unfold Hid;omega
     have PC:Hid (∀W,Wr B m wr W->(AJ h.root (bls h.names)).length<=16777216->Calls Tryz.prog 112 #[.agg #[.bool h.root,vn]] W λe w'=>e=.returned (.string (mkB (AJ h.root (bls h.names))))/\Below W.heap.size W w'):=λW A hl=>
      qY (·<B) h.root h.names hl vn W (V.kept (eL.of_below A.1)) (λb hb=>by have:=A.size;have aS:b<B:=hb;omega)
     have KC:Hid (∀W L,Wr B m wr W->Bdf B m L W->L.length+(E.src false).length<=16777216->Calls Tryz.prog 68 #[.pointer (some ⟨m,0,none⟩),.slice ak E.len ck] W λe w'=>e=.returned (.tuple #[])/\Bdf B m (L++E.src false) w'/\Wr B m W w'):=λW L A hb hl=>
      IH.out E (by omega) B m L _ W Y (by omega) hl (d8.kept ⟨ak,ck,rfl,k1,k2,k3⟩ (eL.of_below A.1)) hb (Nat.le_trans I A.size)
     have EC:Hid (∀W L,Wr B m wr W->Bdf B m L W->L.length+(J.src false).length<=16777216->Calls Tryz.prog 68 #[.pointer (some ⟨m,0,none⟩),.slice ae J.len ce] W λe w'=>e=.returned (.tuple #[])/\Bdf B m (L++J.src false) w'/\Wr B m W w'):=λW L A hb hl=>
      IH.out J (by omega) B m L _ W Z (by omega) hl (d8.kept ⟨ae,ce,rfl,e1,e2,e3⟩ (eL.of_below A.1)) hb (Nat.le_trans I A.size)
     have AC:Hid (∀W L,Wr B m wr W->Bdf B m L W->∀(K:List ByteArray) (bk:Nat),(∀(j:Nat) x,K[j]? =some x->W.cell? ⟨bk,0+j,none⟩=some (.string x))->bk<W.heap.size->K.length<=3->L.length+(fh (bls K)).length<=16777216->
      Calls Tryz.prog 110 #[.slice (some ⟨bk,0,none⟩) K.length K.length,.pointer (some ⟨w.heap.size,0,none⟩)] W λe w'=>e=.returned (.tuple #[])/\Bdf B m (L++(bra++fh (bls K)++ket)) w'/\Wr B m W w'):=λW L A hb K bk hc az hN hl=>
      tJ B m w.heap.size L K bk 0 K.length W hb (Nat.le_trans I A.size) (A.block O.out (by omega) (by decide)) hc az (by omega) (AG _) (by omega) (by omega)
     have aD:Hid (∀W,Wr B m wr W->W.cell? ⟨w.heap.size,0,none⟩=some (.pointer (some ⟨m,0,none⟩))):=λW A=>by rw[dW (A.block O.out (by omega) (by decide))];rfl
     have aG:=AF hk
     have av:k+1+r.len<=t.len:=by omega
     have aE:Hid (∀W,Wr B m (wr.alloc (.cells (eo h vn (.slice ak E.len ck) (.slice ae J.len ce)) 56 (0,0))) W->Al wr.heap.size h vn (.slice ak E.len ck) (.slice ae J.len ce) W):=λW A=>
      Ap (A.block (heap_alloc_new wr _) (by omega) (by decide))
     have aM:Hid (Wr B m wr (wr.alloc (.cells (eo h vn (.slice ak E.len ck) (.slice ae J.len ce)) 56 (0,0)))):=Wr.alloc wr _ I
     have aJ:Hid (Bdf B m l' (wr.alloc (.cells (eo h vn (.slice ak E.len ck) (.slice ae J.len ce)) 56 (0,0)))):=R.out.below ((AH _ wr).alloc (AG _) _)
     have aN:Hid (∀W,Wr B m w W->∀j,k=j+1->∃E:Nat,W.cell? ⟨b,o+j*8,none⟩=some (.int .u8 (E:Nat))/\af=decide (E=1)):=λW A j hj=>by
      have:=HA.out;rw[hj]at this
      obtain⟨E,-,h2,h3,h4⟩:=this
      exact⟨E,(A.1.cell (p:=⟨b,o+j*8,none⟩) h2).trans h3,h4⟩
     have aK:Hid (k=0->af=false):=λe=>by have:=HA.out;rw[e]at this;exact this
     have aL:Hid (zu B (some ⟨b,o,none⟩) b o w (k+1) (decide (h.kind=1))):=⟨h.kind,rfl,M,ao.out,rfl⟩
     obtain⟨an,cn,rfl,n1,n2,-⟩:=V
     clear G k3 e3 Y Z hk HA al ao aj HS ap O aw ax
     clear HR
     obtain⟨u,hu⟩:∃u:Nat,yM h.kind=u:=⟨_,rfl⟩
     have HC:=aq u (hu ▸ uS _)
     clear aq
     revert W1 ab HQ wr u5 u6 u7 u12 u13 u14 u15 u16 u17 u18 u19 u20 u21 u22 u23 u24 u25 u26 u27 u28 u29 u30 u31 u32 u33 u34 u35 u36 u37 u38 u39 u40 u41 u42 u43 u44 u45 u46 u47 u48 u49 u50 u51 u52 u53 u54 u55 u56 u57 u58 u59 u60 u61 u62 u63 u64 u65 u66 u67 u68 u69 u70 u71 u72 u73 u74 u75 u76 u77 u78 u79 u80 u81 u82 u83 u84 u85 u86 u87 k l' af R N h E J r ag HE M ai g0 g1 g2 g3 g5 ak ck g6 k1 k2 ae ce g7 e1 e2 au ac s0 ay ar I aB aF an cn PC KC EC AC aD aG av aE aM aJ aN aK aL g4 n1 n2 ah hu
     exact HC
theorem iT {B o q:Nat}{wr:World}(O:∀W L,Wr B o wr W->Bdf B o L W->∀(m:List ByteArray) (A:Nat),(∀(j:Nat) x,m[j]? =some x->W.cell? ⟨A,0+j,none⟩=some (.string x))->A<W.heap.size->m.length<=3->L.length+(fh (bls m)).length<=16777216->
 Calls Tryz.prog 110 #[.slice (some ⟨A,0,none⟩) m.length m.length,.pointer (some ⟨q,0,none⟩)] W λe w'=>e=.returned (.tuple #[])/\Bdf B o (L++(bra++fh (bls m)++ket)) w'/\Wr B o W w')
 (W:World) (L:By) (I:Wr B o wr W) (G:Bdf B o L W) (r:B<=W.heap.size) (m:List ByteArray) (J:m.length<=3) (E:L.length+(fh (bls m)).length<=16777216):
 Calls Tryz.prog 110 #[.slice (some ⟨W.heap.size,0,none⟩) m.length m.length,.pointer (some ⟨q,0,none⟩)] (W.alloc (.cells (m.map Value.string).toArray 9)) λe w'=>e=.returned (.tuple #[])/\Bdf B o (L++(bra++fh (bls m)++ket)) w'/\Wr B o W w':=by
 refine(O (W.alloc (.cells (m.map Value.string).toArray 9)) L (I.trans (Wr.alloc W _ r)) (G.below ((AH _ W).alloc (AG _) _)) m W.heap.size (λj x hx=> ?_) (by simp) J E).mono ?_
 · rw[dW (heap_alloc_new W _)];simp[hx]
 · rintro e w' ⟨N,M,K⟩
   exact⟨N,M,(Wr.alloc W _ r).trans K⟩
theorem jP (t:Pt):t.isNil=decide (t.len=0):=by cases t <;> simp[Pt.isNil,Pt.len]
end Go.Proofs.YtepcpgdfbaklfaaGreatDoor
