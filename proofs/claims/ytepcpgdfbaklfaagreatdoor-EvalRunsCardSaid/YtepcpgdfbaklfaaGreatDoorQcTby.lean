/- Slices of bytes that the call makes itself: the conversion to a text. The condition: at most 2 to the 47th bytes. -/
import Derived.Test.YtepcpgdfbaklfaaGreatDoorQcLib
import Derived.Test.YtepcpgdfbaklfaaGreatDoorQcMath
import Derived.WalkKit
import Derived.WalkSpells
import Derived.WalkLawsBesides
import Derived.Lib.Hide
import Derived.Outline
import Derived.Deep.RegionWith
import Derived.Deep.RegionLaw
import Derived.Laws.BytesArg
import Derived.Lib.BufferWrite
import Derived.Lib.AppendStr
import Derived.Test.YtepcpgdfbaklfaaGreatDoorQcTq7
import Derived.Test.YtepcpgdfbaklfaaGreatDoorQcTbd
import Derived.Test.YtepcpgdfbaklfaaGreatDoorQcTso
import Derived.Test.YtepcpgdfbaklfaaGreatDoorQcTs0
import Derived.Deep.RegionHeld3
import Derived.Test.YtepcpgdfbaklfaaGreatDoorQcTl7
set_option maxRecDepth 100000
set_option maxHeartbeats 40000000
set_option linter.unusedVariables false
namespace Go.Proofs.YtepcpgdfbaklfaaGreatDoor
open Go.RowKit
def f8 (B:Nat)(v:Value)(l:List UInt8)(w:World):Prop:=w.ownsRow B 5 1 v l.length (Lib.byteCells l)
theorem f8.nil (B:Nat)(w:World):f8 B (.slice none 0 0) [] w:=World.ownsRow_nil _ _ _ _
theorem f8.alloc {B:Nat}{v:Value}{l:List UInt8}{w:World}(h:f8 B v l w)(o:Obj):f8 B v l (w.alloc o):=World.ownsRow.alloc h o
theorem f8.drew {B:Nat}{v:Value}{l:List UInt8}{w:World}(h:f8 B v l w):f8 B v l w.drew:=h
theorem f8.below {B:Nat}{v:Value}{l:List UInt8}{w w' w0:World}(h:f8 B v l w)(r:Below B w0 w)(hB:B<=w.heap.size)(o:w.grownBy w' v.ownBlock):Below B w0 w':=
 r.grown o hB (λk m=>(World.ownsRow.lt h k m).1)
theorem f8.shape {B:Nat}{v:Value}{l:List UInt8}{w:World}(h:f8 B v l w):∃a c,v=.slice a l.length c:=by
 rcases h.2 with⟨rfl,m⟩ | ⟨g,cap,o,rfl,_⟩
 · exact⟨none,0,by rw[m]⟩
 · exact⟨_,_,rfl⟩
theorem f8.text {B:Nat}{v:Value}{l:List UInt8}{w:World}(h:f8 B v l w):(convert 134 9 v).run Tryz.prog w=.ok (.string ⟨l.toArray⟩) w:=by
 rcases h.2 with⟨rfl,A⟩ | ⟨g,cap,K,rfl,_⟩
 · have E:l=[]:=by simpa using A
   subst E
   rw[run_convert_bytes_nil w 134 5 Tryz.underlying134 Tryz.underlying5 0 0 9 Tryz.underlying9]
   rfl
 · have I:=World.ownsRow.cells h (g:=g) rfl
   have:=run_convert_bytes_arg (P:=Tryz.prog) w 134 5 Tryz.underlying134 Tryz.underlying5 g 0 l.length cap (l.map λb=>(b.toNat:Int)) (by simp) (by
    intro i o
    have r:=I i (.int .u8 (l[i].toNat:Int)) (by simp[Lib.byteCells,o])
    have m:(⟨g,0,none⟩:Addr).add i=⟨g,i,none⟩:=by unfold Addr.add;split <;> simp_all
    rw[m]at r
    rw[Nat.zero_add,r]
    simp[List.getD,o]) 9 Tryz.underlying9
   rw[this]
   have e:strOfNums (l.map λb=>(b.toNat:Int))=⟨l.toArray⟩:=by
    unfold strOfNums
    rw[List.map_map]
    have J:∀f:UInt8->UInt8,(∀b,f b=b)->l.map f=l:=λf G=>by
     conv=>rhs;rw[<-List.map_id l]
     apply List.map_congr_left
     intro b _
     exact G b
    rw[J _ (λb=>by simp)]
   rw[e]
set_option linter.unusedSimpArgs false
open Go.RowKit Go.Shelf
attribute [local go_sem ↓] Go.wp_at_zero Go.wp_at_succ
theorem lB {A:Array Oper}{rest:List Oper}{o:Oper}{a:Act}{w:World}{Q:Exit->Act->World->Prop}(M:o.guard=none)(G x:Operand)
 (V:o.op=.call {callee:=.builtin .append,args:=#[G,x],argTypes:=#[134,9]})
 (B:Nat) (v:Value) (l:By) (U:a.eval G=v) (m:f8 B v l w) (s:ByteArray) (hx:a.eval x=.string s) (O:l.length+s.size<=16777216) (hB:B<=w.heap.size)
 (P:Nat) (cs:Array Value) (N:w.heap[P]? =some (.cells cs 56 (0,0)))
 (h:∀E w',f8 B E (l++bl s) w'->Below B w w'->w'.heap[P]? =some (.cells cs 56 (0,0))->wpList Tryz.prog A Q rest (a.put o.dst E) w'):wpList Tryz.prog A Q (o::rest) a w:=by
 obtain⟨i0,Y,K,J,I⟩:=info_parts Lb.extra.infoByte
 refine Lib.wpList_append_own_string w M G x 134 9 V B 5 i0 Tryz.underlying134 Tryz.underlying9 Y K J I v l.length (Lib.byteCells l) U m s hx (by unfold maxLen;omega) (by omega) hB ?_
 intro E w' Z R _
 refine h E w' ?_ ((AH B w).grown R hB (λk W=>(World.ownsRow.lt m k W).1)) ?_
 · unfold f8
   rw[Lib.byteCells_append,List.length_append]
   exact Z
 · refine(R.block P (dX N) (λe=> ?_)).trans N
   rcases m.2 with⟨rfl,-⟩ | ⟨g,cap,aa,rfl,-,r,-⟩
   · cases e
   · have:P=g:=by simpa[Value.ownBlock]using e
     rw[<-this,N]at r
     injection r with r
     injection r with _ r
     revert r;decide
theorem jK {A:Array Oper}{o:Oper}{a:Act}{w:World}{K:Act->World->Prop}{Q:Exit->Act->World->Prop}{E:Prop}(N:o.guard=none)(R x:Operand)
 (Z:o.op=.call {callee:=.builtin .append,args:=#[R,x],argTypes:=#[134,9]})
 (B:Nat) (v:Value) (l:By) (W:a.eval R=v) (m:f8 B v l w) (s:ByteArray) (hx:a.eval x=.string s) (U:l.length+s.size<=16777216) (hB:B<=w.heap.size)
 (P:Nat) (cs:Array Value) (O:w.heap[P]? =some (.cells cs 56 (0,0)))
 (h:∀G w',f8 B G (l++bl s) w'->Below B w w'->w'.heap[P]? =some (.cells cs 56 (0,0))->K (a.put o.dst G) w'):
 if Region.wanted o (yielded A a.tmps)=true then Oper.wp Tryz.prog o a w K Q else E:=by
 have hw:Region.wanted o (yielded A a.tmps)=true:=by simp[Region.wanted,N]
 rw[if_pos hw]
 obtain⟨i0,hi,M,J,I⟩:=info_parts Lb.extra.infoByte
 obtain⟨G,w',Y,h1,V,-⟩:=Lib.run_append_own_string (P:=Tryz.prog) w B 134 9 o.type 5 i0 Tryz.underlying134 Tryz.underlying9 hi M J I v l.length (Lib.byteCells l) m s (by unfold maxLen;omega) (by omega) hB
 unfold Oper.wp execOp
 simp only[Z,resolve,invoke,builtin,Sem.run_bind,Sem.run_pure,Result.andThen_ok,List.map_toArray,List.map_cons,List.map_nil,W,hx,Y]
 refine h G w' ?_ ((AH B w).grown V hB (λk hk=>(World.ownsRow.lt m k hk).1)) ?_
 · unfold f8
   rw[Lib.byteCells_append,List.length_append]
   exact h1
 · refine(V.block P (dX O) (λe=> ?_)).trans O
   rcases m.2 with⟨rfl,-⟩ | ⟨g,cap,aa,rfl,-,r,-⟩
   · cases e
   · have:P=g:=by simpa[Value.ownBlock]using e
     rw[<-this,O]at r
     injection r with r
     injection r with _ r
     revert r;decide
theorem f8.bel {B:Nat}{v:Value}{l:By}{w w':World}(h:f8 B v l w)(r:Below w.heap.size w w'):f8 B v l w':=by
 refine⟨h.1,?_⟩
 rcases h.2 with h | ⟨g,cap,m,G,E,o,A⟩
 · exact .inl h
 · exact .inr ⟨g,cap,m,G,E,(r.block g (dX o)).trans o,A⟩
theorem wy (root:Bool)(l:List ByteArray):l.length+nsz l<=(AJ root (bls l)).length:=by
 unfold AJ
 split
 · rename_i h
   have:l=[]:=by have:=h.1;unfold bls at this;simpa using this
   subst this;simp[nsz]
 · rw[List.length_append,pE];omega
theorem f8.shp {B:Nat}{v:Value}{l:List UInt8}{w:World}(h:f8 B v l w):∃a n c,v=.slice a n c:=by
 obtain⟨a,c,m⟩:=h.shape
 exact⟨a,_,c,m⟩
def PnP (x:Pt)(w:World)(e:Ending)(w':World):Prop:=e=.returned (.string (mkB (x.src false)))/\Below w.heap.size w w'
def tU (n:Nat):Prop:=∀(x:Pt),x.cnt<n->∀(fr:Bool) (v:Value) (w:World),x.sm->x.form fr=true->x.cnt<=16777216->(x.src false).length<=16777216->d8 (·<w.heap.size) w v x->Calls Tryz.prog 96 #[v] w (PnP x w)
def vX (a:Option Addr)(w:World)(k:Nat)(r:Bool):Prop:=
 match k with
 | 0=>r=false
 | j+1=>∃b o m:Nat,a=some ⟨b,o,none⟩/\b<w.heap.size/\w.cell? ⟨b,o+j*8,none⟩=some (.int .u8 (m:Nat))/\r=decide (m=1)
theorem wR (n:Nat)(ih:tU n):tU (n+1):=by
 intro x hn fr v w bz bG cr bC hx
 obtain⟨a,c,rfl,h1,h2,h3⟩:=hx.lt
 have HX:Hid (jX (·<w.heap.size) a w x 0):=λbS=>by
  obtain⟨b,o,q1,q2,q3⟩:=h3 bS
  exact⟨b,o,q1,q2,by rw[Nat.zero_mul,Nat.add_zero];exact q3⟩
 have b2:=AF bz
 have b7:=AF bG
 have b3:=AF bC
 have IH:=AF ih
 have cg:=kY x
 clear h3 hx h1 h2 ih bz bG bC
 go_enter Tryz.func96,Tryz.ntmps96
 go_wp2_with fail
 go_loopw [3,4] (λv3 v4 wr=>∃(k:Nat) (oa:Option Addr) (on oc:Nat) (m:By) (r:Pt) (af:Bool),v3=.slice oa on oc/\v4=.int .i64 (k:Nat)/\k+r.len=x.len/\Hid (f8 w.heap.size (.slice oa on oc) m wr)/\Hid (m++r.src af=x.src false)/\Hid (vX a w k af)/\Hid (jX (·<w.heap.size) a w r k)/\r.cnt<=x.cnt/\Hid r.sm/\Hid (r.form fr=true)/\Hid (Below w.heap.size w wr)) (λ_ i _=>x.len - (intOf i).toNat)
 case atStart=>exact⟨0,none,0,0,[],x,false,rfl,rfl,by omega,f8.nil _ _,rfl,rfl,HX,AG _,b2,b7,AH _ _⟩
 case round=>
  obtain⟨k,oa,on,oc,m,r,af,rfl,rfl,hk,HO,HE,bN,HR,bW,b1,b6,HB⟩:=hrel
  cases r with
  | nil=>
    simp only[Pt.len]at hk
    have cq:¬(k:Int)<(x.len:Int):=by omega
    have bU:=HO.out.text
    have HL:Hid (m=x.src false):=by have:=HE.out;rwa[Pt.src,List.append_nil]at this
    go_wp2_with fail
    go_ret
    exact⟨by rw[<-HL.out];rfl,HB.out⟩
  | cons h O A r=>
    simp only[Pt.len]at hk
    simp only[Pt.cnt]at bW
    have ch:(k:Int)<(x.len:Int):=by omega
    have cj:(0:Int)<=(k:Int):=by omega
    obtain⟨bQ,bA,ad,bw⟩:=b1.out
    have aa:=AF bw
    have bI:=b6.out
    simp only[Pt.form,Bool.and_eq_true]at bI
    obtain⟨⟨bE,bD⟩,bF⟩:=bI
    have ab:=AF bF
    have b5:=AF bE
    have b4:=AF bD
    obtain⟨b,o,rfl,G,bh⟩:=HR.out (by simp)
    have ao:Hid (jX (·<w.heap.size) (some ⟨b,o,none⟩) w r (k+1)):=λ_=>⟨b,o,rfl,G,by have:=bh.2.2.2;rwa[show o+k*8+8=o+(k+1)*8 by omega]at this⟩
    obtain⟨⟨g0,g1,g2,g3,⟨vn,g4,bg⟩,g5⟩,⟨ak,ck,g6,k1,k2,k3⟩,⟨ae,ce,g7,e1,e2,e3⟩,-⟩:=bh
    have bP:=HB.out.size
    have KC:Hid (∀W,Below w.heap.size w W->Pt.form false O=true->(O.src false).length<=16777216->Calls Tryz.prog 96 #[.slice ak O.len ck] W λe w'=>e=.returned (.string (mkB (O.src false)))/\Below W.heap.size W w'):=λW hW hf hl=>
     IH.out O (by omega) false _ W bA hf (by omega) hl ((d8.kept ⟨ak,ck,rfl,k1,k2,k3⟩ (λb G=>hW.block b G.2)).mono (λb G=>AI G.2 hW.size))
    have EC:Hid (∀W,Below w.heap.size w W->Pt.form false A=true->(A.src false).length<=16777216->Calls Tryz.prog 96 #[.slice ae A.len ce] W λe w'=>e=.returned (.string (mkB (A.src false)))/\Below W.heap.size W w'):=λW hW hf hl=>
     IH.out A (by omega) false _ W ad hf (by omega) hl ((d8.kept ⟨ae,ce,rfl,e1,e2,e3⟩ (λb G=>hW.block b G.2)).mono (λb G=>AI G.2 hW.size))
    have WC:Hid (∀W,Below w.heap.size w W->1+h.names.length+nsz h.names<=16777216->Calls Tryz.prog 137 #[.agg #[.bool h.root,vn]] W λe w'=>e=.returned (.string (mkB (AJ h.root (bls h.names))))/\Below W.heap.size W w'):=λW hW hl=>
     qM h.root h.names hl vn W ((bg.kept (λb G=>hW.block b G.2)).mono (λb G=>AI G.2 hW.size))
    have aU:Hid (m.length+(eO h O A af).length<=16777216):=by
     have h1:=b3.out
     have h2:=congrArg List.length HE.out
     rw[fp]at h2
     simp only[List.length_append]at h2
     unfold Hid;omega
    have ar:Hid (m++eO h O A af++r.src (decide (h.kind=1))=x.src false):=by have:=HE.out;rw[fp,←List.append_assoc]at this;exact this
    have av:Hid (vX (some ⟨b,o,none⟩) w (k+1) (decide (h.kind=1))):=⟨b,o,h.kind,rfl,G.2,g0,rfl⟩
    have HA:Hid (Below wr.heap.size wr (wr.alloc (.cells (eo h vn (.slice ak O.len ck) (.slice ae A.len ce)) 56))):=(AH _ wr).alloc (AG _) _
    have HT:Hid ((wr.alloc (.cells (eo h vn (.slice ak O.len ck) (.slice ae A.len ce)) 56)).heap[wr.heap.size]? =some (.cells (eo h vn (.slice ak O.len ck) (.slice ae A.len ce)) 56 (0,0))):=heap_alloc_new wr _
    have aw:Hid (f8 w.heap.size (.slice oa on oc) m (wr.alloc (.cells (eo h vn (.slice ak O.len ck) (.slice ae A.len ce)) 56))):=HO.out.alloc _
    obtain⟨an,cn,rfl,n1,n2,-⟩:=bg
    have cc:∀j y,w.cell? ⟨b,o+k*8+j,none⟩=some y->wr.cell? ⟨b,o+k*8+j,none⟩=some y:=λj y hy=>(HB.out.cell (p:=⟨b,_,none⟩) G.2).trans hy
    have p0:=cc 0 _ g0
    have p1:=cc 1 _ g1
    have p2:=cc 2 _ g2
    have p3:=cc 3 _ g3
    have p4:=cc 4 _ g4
    have p5:=cc 5 _ g5
    have p6:=cc 6 _ g6
    have p7:=cc 7 _ g7
    rw[Nat.add_zero]at p0
    have ct:b<wr.heap.size:=AI G.2 HB.out.size
    have ap:=AF hk
    have ci:k+1+r.len<=x.len:=by omega
    clear k3 e3 g0 g1 g2 g3 g4 g5 g6 g7 cc hk bA ad bw bF bE bD bQ
    unfold eo at HA HT aw
    go_upto_region 6 with(fail)
    generalize bY:World.alloc wr _=W0 at*
    clear bY p0 p1 p2 p3 p4 p5 p6 p7
    have Y:Hid (Below w.heap.size w W0):=HB.out.trans (HA.out.mono bP)
    have aA:Hid (∀W:World,W.heap[wr.heap.size]? =some (.cells #[.int .u8 (h.kind:Nat),.int .i64 h.pos,.string h.text,.bool h.root,.slice an h.names.length cn,.string h.name,.slice ak O.len ck,.slice ae A.len ce] 56 (0,0))->
     W.cell? ⟨wr.heap.size,0,none⟩=some (.int .u8 (h.kind:Nat))/\W.cell? ⟨wr.heap.size,2,none⟩=some (.string h.text)/\W.cell? ⟨wr.heap.size,3,none⟩=some (.bool h.root)/\W.cell? ⟨wr.heap.size,4,none⟩=some (.slice an h.names.length cn)/\
     W.cell? ⟨wr.heap.size,5,none⟩=some (.string h.name)/\W.cell? ⟨wr.heap.size,6,none⟩=some (.slice ak O.len ck)/\W.cell? ⟨wr.heap.size,7,none⟩=some (.slice ae A.len ce)):=λW hW=>by
     have q:=λj=>dW hW j
     exact⟨(q 0).trans rfl,(q 2).trans rfl,(q 3).trans rfl,(q 4).trans rfl,(q 5).trans rfl,(q 6).trans rfl,(q 7).trans rfl⟩
    have cv:Hid (∀(v':Value) (W:World),f8 w.heap.size v' (m++eO h O A af) W->Below w.heap.size w W->∃(oa:Option Addr) (on oc:Nat),v'=.slice oa on oc/\Hid (f8 w.heap.size (.slice oa on oc) (m++eO h O A af) W)):=λv' W E _=>by
     obtain⟨a,c,rfl⟩:=E.shape
     exact⟨_,_,_,rfl,E⟩
    obtain⟨x0,x2,x3,x4,x5,x6,x7⟩:=aA.out _ HT.out
    by_cases h1:h.kind=1
    · have N:Hid (eO h O A af=(if af then js else[])++bl h.text):=if_pos h1
      have J:m.length+(if af then js else[]).length+h.text.size<=16777216:=by
       have:=aU.out
       rw[N.out,List.length_append]at this
       have e:(bl h.text).length=h.text.size:=rfl
       omega
      rw[h1]at x0
      have bf:=AF h1
      clear h1
      rcases Nat.eq_zero_or_pos k with hz | hp
      · obtain rfl:af=false:=by have:=bN.out;rw[hz]at this;exact this
        have ca:¬(0:Int)<(k:Int):=by omega
        have aN:m.length+h.text.size<=16777216:=by simpa using J
        clear hz J
        go_wp2_with (at_builtin;refine lB rfl _ _ rfl w.heap.size _ (m) rfl aw.out h.text rfl aN Y.out.size wr.heap.size _ HT.out ?_;intro v' w1 E G K;obtain⟨a1,m1,c1,rfl⟩:=E.shp;have aT:Hid (f8 w.heap.size (.slice a1 m1 c1) (m++bl (h.text)) w1):=E;have aI:Hid (Below w.heap.size w w1):=Y.out.trans G;have bd:=AF K;clear E G K)
        have U:Hid (m++bl h.text++r.src (decide (h.kind=1))=x.src false):=by
         have:=ar.out
         rw[N.out]at this
         unfold Hid;rw[<-this];simp
        exact⟨⟨k+1,a1,_,c1,_,r,_,rfl,by go_num,by have:=ap.out;omega,aT,U,av,ao,by omega,aa,ab,aI⟩,by simp[intOf];omega⟩
      · obtain⟨j,hj⟩:∃j,k=j+1:=⟨k - 1,by omega⟩
        obtain⟨b',o',q,bK,bX,hq,ba⟩:∃b' o' q:Nat,(some ⟨b,o,none⟩:Option Addr)=some ⟨b',o',none⟩/\b'<w.heap.size/\w.cell? ⟨b',o'+j*8,none⟩=some (.int .u8 (q:Nat))/\af=decide (q=1):=by have:=bN.out;rw[hj]at this;exact this
        obtain⟨rfl,rfl⟩:b=b'/\o=o':=by injection bK with e;injection e with e1 e2;exact⟨e1,e2⟩
        have cp:(k:Int) - 1=(j:Int):=by omega
        have cd:(0:Int)<(k:Int):=by omega
        have co:(j:Int)<(x.len:Int):=by omega
        have cm:(0:Int)<=(j:Int):=by omega
        have cb:W0.cell? ⟨b,o+j*8,none⟩=some (.int .u8 (q:Nat)):=(Y.out.cell (p:=⟨b,_,none⟩) bX).trans hq
        clear hj hp bK hq
        cases af with
        | false=>
          have bR:((q:Int)==1)=false:=beq_eq_false_iff_ne.2 (by have:=of_decide_eq_false ba.symm;omega)
          have aN:m.length+h.text.size<=16777216:=by simpa using J
          clear ba J
          go_wp2_with (at_builtin;refine lB rfl _ _ rfl w.heap.size _ (m) rfl aw.out h.text rfl aN Y.out.size wr.heap.size _ HT.out ?_;intro v' w1 E G K;obtain⟨a1,m1,c1,rfl⟩:=E.shp;have aT:Hid (f8 w.heap.size (.slice a1 m1 c1) (m++bl (h.text)) w1):=E;have aI:Hid (Below w.heap.size w w1):=Y.out.trans G;have bd:=AF K;clear E G K)
          have U:Hid (m++bl h.text++r.src (decide (h.kind=1))=x.src false):=by
           have:=ar.out
           rw[N.out]at this
           unfold Hid;rw[<-this];simp
          exact⟨⟨k+1,a1,_,c1,_,r,_,rfl,by go_num,by have:=ap.out;omega,aT,U,av,ao,by omega,aa,ab,aI⟩,by simp[intOf];omega⟩
        | true=>
          have bR:((q:Int)==1)=true:=beq_iff_eq.2 (by have:=of_decide_eq_true ba.symm;omega)
          have aN:m.length+(⟨#[123,123,47,42,42,47,125,125]⟩:ByteArray).size<=16777216:=by have:(if true=true then js else[]).length=8:=rfl;rw[this]at J;show m.length+8<=_;omega
          have bT:(m++bl ⟨#[123,123,47,42,42,47,125,125]⟩).length+h.text.size<=16777216:=by rw[List.length_append];have:(if true=true then js else[]).length=8:=rfl;rw[this]at J;show m.length+8+_<=_;omega
          clear ba J
          go_upto_region 17 with(at_builtin;refine lB rfl _ _ rfl w.heap.size _ (m) rfl aw.out ⟨#[123,123,47,42,42,47,125,125]⟩ rfl aN Y.out.size wr.heap.size _ HT.out ?_;intro v' w1 E G K;obtain⟨a1,m1,c1,rfl⟩:=E.shp;have aT:Hid (f8 w.heap.size (.slice a1 m1 c1) (m++bl (⟨#[123,123,47,42,42,47,125,125]⟩)) w1):=E;have aI:Hid (Below w.heap.size w w1):=Y.out.trans G;have bd:=AF K;clear E G K)
          clear x0 x2 x3 x4 x5 x6 x7
          obtain⟨x0,x2,x3,x4,x5,x6,x7⟩:=aA.out _ bd.out
          go_wp2_with (at_builtin;refine lB rfl _ _ rfl w.heap.size _ (m++bl ⟨#[123,123,47,42,42,47,125,125]⟩) rfl aT.out h.text rfl bT aI.out.size wr.heap.size _ bd.out ?_;intro v' w2 E G K;obtain⟨a2,m2,c2,rfl⟩:=E.shp;have aS:Hid (f8 w.heap.size (.slice a2 m2 c2) (m++bl ⟨#[123,123,47,42,42,47,125,125]⟩++bl (h.text)) w2):=E;have aY:Hid (Below w.heap.size w w2):=aI.out.trans G;have bL:=AF K;clear E G K)
          have U:Hid ((m++bl ⟨#[123,123,47,42,42,47,125,125]⟩)++bl h.text++r.src (decide (h.kind=1))=x.src false):=by
           have:=ar.out
           rw[N.out]at this
           unfold Hid;rw[<-this];simp[js,bl]
          exact⟨⟨k+1,a2,_,c2,_,r,_,rfl,by go_num,by have:=ap.out;omega,aS,U,av,ao,by omega,aa,ab,aY⟩,by simp[intOf];omega⟩
    have bc:wr.heap.size<W0.heap.size:=dX HT.out
    obtain⟨Wy,Z⟩:∃Wy,AJ h.root (bls h.names)=Wy:=⟨_,rfl⟩
    have aJ:=wy h.root h.names
    rw[Z]at aJ
    obtain⟨s,hs⟩:∃s,mkB Wy=s:=⟨_,rfl⟩
    have aG:s.size=Wy.length:=by rw[<-hs];rfl
    have aM:bl s=Wy:=by rw[<-hs];rfl
    have HS:=AF aM
    have cu:=AF Z
    by_cases h2:h.kind=2
    · have N:Hid (eO h O A af=bra++Wy++ket):=by unfold Hid eO;rw[if_neg h1,if_pos h2,Z]
      have J:m.length+(s.size+4)<=16777216:=by
       have:=aU.out
       rw[N.out,List.length_append,List.length_append]at this
       have e1:bra.length=2:=rfl
       have e2:ket.length=2:=rfl
       omega
      have ai:Hid (Calls Tryz.prog 137 #[.agg #[.bool h.root,.slice an h.names.length cn]] W0 λe w'=>e=.returned (.string s)/\Below W0.heap.size W0 w'):=by
       have:=WC.out W0 Y.out (by omega)
       rw[Z,hs]at this;exact this
      rw[h2]at x0
      have bf:=AF h2
      clear h1 h2 Z hs aM aJ
      go_wp2_with fail
      refine ai.out.mono ?_
      rintro e w1 ⟨rfl,M⟩
      have aC:Hid (f8 w.heap.size (.slice oa on oc) m w1):=aw.out.bel M
      have ac:Hid (Below w.heap.size w w1):=Y.out.trans (M.mono Y.out.size)
      have ag:=AF ((M.block _ bc).trans HT.out)
      clear M ai x0 x2 x3 x4 x5 x6 x7
      have z1:(⟨#[123,123]⟩:ByteArray).size=2:=rfl
      have z2:(⟨#[125,125]⟩:ByteArray).size=2:=rfl
      have z3:(⟨#[123,123]⟩++s:ByteArray).size=2+s.size:=by rw[ByteArray.size_append,z1]
      have z4:m.length+(⟨#[123,123]⟩++s++⟨#[125,125]⟩:ByteArray).size<=16777216:=by rw[ByteArray.size_append,z3,z2];omega
      have aL:s.size<=16777216:=by omega
      clear aG
      go_wp2_with (at_builtin;refine lB rfl _ _ rfl w.heap.size _ (m) (by rfl) aC.out (⟨#[123,123]⟩++s++⟨#[125,125]⟩) (by rfl) z4 ac.out.size wr.heap.size _ ag.out ?_;intro v' w2 E G K;obtain⟨a2,m2,c2,rfl⟩:=E.shp;have aS:Hid (f8 w.heap.size (.slice a2 m2 c2) (m++bl (⟨#[123,123]⟩++s++⟨#[125,125]⟩)) w2):=E;have aY:Hid (Below w.heap.size w w2):=ac.out.trans G;have bL:=AF K;clear E G K)
      have U:Hid (m++bl (⟨#[123,123]⟩++s++⟨#[125,125]⟩)++r.src (decide (h.kind=1))=x.src false):=by
       have:=ar.out
       rw[N.out]at this
       unfold Hid;rw[<-this];rw[eP,eP,HS.out];simp[bra,ket,bl]
      exact⟨⟨k+1,a2,_,c2,_,r,_,rfl,by go_num,by have:=ap.out;omega,aS,U,av,ao,by omega,aa,ab,aY⟩,by simp[intOf];omega⟩
    by_cases h5:h.kind=5
    · have N:Hid (eO h O A af=bra++(eY++32::bl h.name++32::Wy)++ket):=by unfold Hid eO;rw[if_neg h1,if_neg h2,if_pos h5,Z]
      have J:m.length+(h.name.size+s.size+10)<=16777216:=by
       have:=aU.out
       rw[N.out]at this
       simp only[List.length_append,List.length_cons]at this
       have e1:bra.length=2:=rfl
       have e2:ket.length=2:=rfl
       have e3:eY.length=4:=rfl
       have e4:(bl h.name).length=h.name.size:=rfl
       omega
      have ai:Hid (Calls Tryz.prog 137 #[.agg #[.bool h.root,.slice an h.names.length cn]] W0.drew λe w'=>e=.returned (.string s)/\Below W0.drew.heap.size W0.drew w'):=by
       have:=WC.out W0.drew (Y.out.trans ⟨rfl,rfl,rfl,AG _,λ_ _=>rfl⟩) (by omega)
       rw[Z,hs]at this;exact this
      rw[h5]at x0
      have bf:=AF h5
      clear h1 h2 h5 Z hs aM aJ
      go_upto_region 21 with(fail)
      have aQ:Hid (f8 w.heap.size (.slice oa on oc) m W0.drew):=aw.out
      have ay:Hid (Below w.heap.size w W0.drew):=Y.out.trans ⟨rfl,rfl,rfl,AG _,λ_ _=>rfl⟩
      have aO:Hid (W0.drew.heap[wr.heap.size]? =_):=HT.out
      have z1:(⟨#[123,123,99,97,108,108,32]⟩:ByteArray).size=7:=rfl
      have z2:(⟨#[125,125]⟩:ByteArray).size=2:=rfl
      have z5:(⟨#[32]⟩:ByteArray).size=1:=rfl
      have z3:(⟨#[123,123,99,97,108,108,32]⟩++h.name:ByteArray).size=7+h.name.size:=by rw[ByteArray.size_append,z1]
      have z6:(⟨#[123,123,99,97,108,108,32]⟩++h.name++⟨#[32]⟩:ByteArray).size=7+h.name.size+1:=by rw[ByteArray.size_append,z3,z5]
      have z7:(⟨#[123,123,99,97,108,108,32]⟩++h.name++⟨#[32]⟩++s:ByteArray).size=7+h.name.size+1+s.size:=by rw[ByteArray.size_append,z6]
      have z4:m.length+(⟨#[123,123,99,97,108,108,32]⟩++h.name++⟨#[32]⟩++s++⟨#[125,125]⟩:ByteArray).size<=16777216:=by rw[ByteArray.size_append,z7,z2];omega
      have aL:s.size<=16777216:=by omega
      have a7:h.name.size<=16777216:=by omega
      have y1:¬9223372036854775807<7+h.name.size:=by omega
      have y2:¬9223372036854775807<7+h.name.size+1:=by omega
      have y3:¬9223372036854775807<7+h.name.size+1+s.size:=by omega
      have y4:¬9223372036854775807<7+h.name.size+1+s.size+2:=by omega
      clear aG
      go_region_law (first | (go_simp;go_at_call 137;refine ai.out.mono ?_;rintro e w1 ⟨rfl,M⟩;have aC:Hid (f8 w.heap.size (.slice oa on oc) m w1):=aQ.out.bel M;have ac:Hid (Below w.heap.size w w1):=ay.out.trans (M.mono ay.out.size);have ag:=AF ((M.block _ bc).trans aO.out);have b8:=(aA.out _ ag.out).2.2.2.2.1;clear M) | (refine jK (by rfl) _ _ (by rfl) w.heap.size _ (m) (by rfl) aC.out (⟨#[123,123,99,97,108,108,32]⟩++h.name++⟨#[32]⟩++s++⟨#[125,125]⟩) (by rfl) z4 ac.out.size wr.heap.size _ ag.out ?_;intro v' w2 E G K;obtain⟨a2,m2,c2,rfl⟩:=E.shp;have aS:Hid (f8 w.heap.size (.slice a2 m2 c2) (m++bl (⟨#[123,123,99,97,108,108,32]⟩++h.name++⟨#[32]⟩++s++⟨#[125,125]⟩)) w2):=E;have aY:Hid (Below w.heap.size w w2):=ac.out.trans G;have bL:=AF K;clear E G K))
      all_goals
       go_wp2_with fail
       have U:Hid (m++bl (⟨#[123,123,99,97,108,108,32]⟩++h.name++⟨#[32]⟩++s++⟨#[125,125]⟩)++r.src (decide (h.kind=1))=x.src false):=by
        have:=ar.out
        rw[N.out]at this
        unfold Hid;rw[<-this];rw[eP,eP,eP,eP,HS.out];simp[bra,ket,eY,bl]
       exact⟨⟨k+1,a2,_,c2,_,r,_,rfl,by go_num,by have:=ap.out;omega,aS,U,av,ao,by omega,aa,ab,aY⟩,by simp[intOf];omega⟩
    have bi:h.kind=3\/h.kind=4:=by
     have:=b5.out
     unfold gj at this
     rw[if_neg h1,if_neg h2,if_neg h5]at this
     split at this
     · assumption
     · simp at this
    have bH:Pt.form false O=true/\Pt.form false A=true:=by have:=b4.out;rw[if_pos bi]at this;simpa using this
    obtain⟨a8,bJ⟩:=bH
    have bM:=AF bJ
    obtain⟨I,aH⟩:∃I,mkB (O.src false)=I:=⟨_,rfl⟩
    have aF:I.size=(O.src false).length:=by rw[<-aH];rfl
    have be:Hid (bl I=O.src false):=by unfold Hid;rw[<-aH];rfl
    clear bJ
    rcases bi with hk | hk
    · have N:Hid (eO h O A af=bra++(kIf++32::Wy)++ket++O.src false++(if A.isNil then[]else eI++A.src false)++gx):=by
       unfold Hid eO;rw[if_neg h1,if_neg h2,if_neg h5,if_pos (by omega),Z]
       congr 7
       rw[if_neg (by omega)]
      have J:m.length+(5+s.size+2+I.size+(if A.isNil then[]else eI++A.src false).length+7)<=16777216:=by
       have:=aU.out
       rw[N.out]at this
       simp only[List.length_append,List.length_cons]at this
       have e1:bra.length=2:=rfl
       have e2:ket.length=2:=rfl
       have e3:kIf.length=2:=rfl
       have e4:gx.length=7:=rfl
       omega
      have ai:Hid (Calls Tryz.prog 137 #[.agg #[.bool h.root,.slice an h.names.length cn]] W0.drew λe w'=>e=.returned (.string s)/\Below W0.drew.heap.size W0.drew w'):=by
       have:=WC.out W0.drew (Y.out.trans ⟨rfl,rfl,rfl,AG _,λ_ _=>rfl⟩) (by omega)
       rw[Z,hs]at this;exact this
      have bo:Hid (∀W,Below w.heap.size w W->Calls Tryz.prog 96 #[.slice ak O.len ck] W λe w'=>e=.returned (.string I)/\Below W.heap.size W w'):=λW hW=>by
       have:=KC.out W hW a8 (by omega)
       rw[aH]at this;exact this
      rw[hk]at x0
      have bf:=AF hk
      clear h1 h2 h5 hk Z hs aM aJ aH a8
      go_upto_region 10 with(fail)
      have aQ:Hid (f8 w.heap.size (.slice oa on oc) m W0.drew):=aw.out
      have ay:Hid (Below w.heap.size w W0.drew):=Y.out.trans ⟨rfl,rfl,rfl,AG _,λ_ _=>rfl⟩
      have aO:Hid (W0.drew.heap[wr.heap.size]? =_):=HT.out
      have z1:(⟨#[123,123,105,102,32]⟩:ByteArray).size=5:=rfl
      have z2:(⟨#[125,125]⟩:ByteArray).size=2:=rfl
      have z3:(⟨#[123,123,105,102,32]⟩++s:ByteArray).size=5+s.size:=by rw[ByteArray.size_append,z1]
      have z6:(⟨#[123,123,105,102,32]⟩++s++⟨#[125,125]⟩:ByteArray).size=5+s.size+2:=by rw[ByteArray.size_append,z3,z2]
      have z7:(⟨#[123,123,105,102,32]⟩++s++⟨#[125,125]⟩++I:ByteArray).size=5+s.size+2+I.size:=by rw[ByteArray.size_append,z6]
      have z4:m.length+(⟨#[123,123,105,102,32]⟩++s++⟨#[125,125]⟩++I:ByteArray).size<=16777216:=by rw[z7];omega
      have aL:s.size<=16777216:=by omega
      have a7:I.size<=16777216:=by omega
      have y1:¬9223372036854775807<5+s.size:=by omega
      have y2:¬9223372036854775807<5+s.size+2:=by omega
      have y3:¬9223372036854775807<5+s.size+2+I.size:=by omega
      have ax:=AF J
      have HZ:=AF aG
      have bZ:=AF aF
      clear aG aF J
      go_region_law (first | (go_simp;go_at_call 137;refine ai.out.mono ?_;rintro e w1 ⟨rfl,M⟩;have aC:Hid (f8 w.heap.size (.slice oa on oc) m w1):=aQ.out.bel M;have ac:Hid (Below w.heap.size w w1):=ay.out.trans (M.mono ay.out.size);have ag:=AF ((M.block _ bc).trans aO.out);have bO:=(aA.out _ ag.out).2.2.2.2.2.1;have bn:=AF (bo.out _ ac.out);clear M) | (go_simp;go_at_call 96;refine bn.out.mono ?_;rintro e w2 ⟨rfl,al⟩;have bs:Hid (f8 w.heap.size (.slice oa on oc) m w2):=aC.out.bel al;have aW:Hid (Below w.heap.size w w2):=ac.out.trans (al.mono ac.out.size);have bp:=AF ((al.block _ (dX ag.out)).trans ag.out);clear al) | (refine jK (by rfl) _ _ (by rfl) w.heap.size _ (m) (by rfl) bs.out (⟨#[123,123,105,102,32]⟩++s++⟨#[125,125]⟩++I) (by rfl) z4 aW.out.size wr.heap.size _ bp.out ?_;intro v' w3 E G K;obtain⟨a3,m3,c3,rfl⟩:=E.shp;have aR:Hid (f8 w.heap.size (.slice a3 m3 c3) (m++bl (⟨#[123,123,105,102,32]⟩++s++⟨#[125,125]⟩++I)) w3):=E;have ah:Hid (Below w.heap.size w w3):=aW.out.trans G;have am:=AF K;clear E G K))
      all_goals
       obtain⟨t0,t2,t3,t4,t5,t6,t7⟩:=aA.out _ am.out
       have aE:Hid ((m++bl (⟨#[123,123,105,102,32]⟩++s++⟨#[125,125]⟩++I)).length=m.length+(5+s.size+2+I.size)):=by unfold Hid;rw[List.length_append];show _+(⟨#[123,123,105,102,32]⟩++s++⟨#[125,125]⟩++I:ByteArray).size=_;rw[z7]
       have aV:=AF (jP A)
       clear y1 y2 y3 z3 z6 z7 z4 aL a7 x0 x2 x3 x4 x5 x6 x7 ai
       by_cases R:A.isNil=true
       · have aq:Hid ((if A.isNil then[]else eI++A.src false)=[]):=if_pos R
         have bm:¬(0:Int)<(A.len:Int):=by rw[aV.out]at R;have:=of_decide_eq_true R;omega
         have az:(m++bl (⟨#[123,123,105,102,32]⟩++s++⟨#[125,125]⟩++I)).length+(⟨#[123,123,101,110,100,125,125]⟩:ByteArray).size<=16777216:=by
          rw[aE.out]
          have:=ax.out
          show _+7<=_
          omega
         have aB:Hid (eO h O A af=bra++(kIf++32::Wy)++ket++O.src false++gx):=by unfold Hid;rw[N.out,aq.out,List.append_nil]
         clear R
         go_wp2_with (at_builtin;refine lB rfl _ _ rfl w.heap.size _ (m++bl (⟨#[123,123,105,102,32]⟩++s++⟨#[125,125]⟩++I)) (by rfl) aR.out (⟨#[123,123,101,110,100,125,125]⟩) (by rfl) az ah.out.size wr.heap.size _ am.out ?_;intro v' w5 E G K;obtain⟨a5,m5,c5,rfl⟩:=E.shp;have aD:Hid (f8 w.heap.size (.slice a5 m5 c5) (m++bl (⟨#[123,123,105,102,32]⟩++s++⟨#[125,125]⟩++I)++bl (⟨#[123,123,101,110,100,125,125]⟩)) w5):=E;have au:Hid (Below w.heap.size w w5):=ah.out.trans G;have aP:=AF K;clear E G K)
         have U:Hid (m++bl (⟨#[123,123,105,102,32]⟩++s++⟨#[125,125]⟩++I)++bl ⟨#[123,123,101,110,100,125,125]⟩++r.src (decide (h.kind=1))=x.src false):=by
          have:=ar.out
          rw[aB.out]at this
          unfold Hid;rw[<-this];rw[eP,eP,eP,HS.out,be.out];simp[bra,ket,kIf,gx,bl]
         exact⟨⟨k+1,a5,_,c5,_,r,_,rfl,by go_num,by have:=ap.out;omega,aD,U,av,ao,by omega,aa,ab,au⟩,by simp[intOf];omega⟩
       · have aq:Hid ((if A.isNil then[]else eI++A.src false)=eI++A.src false):=if_neg R
         have bm:(0:Int)<(A.len:Int):=by rw[aV.out]at R;have:¬A.len=0:=λe=>R (decide_eq_true e);omega
         have bj:m.length+(5+s.size+2+I.size+(8+(A.src false).length)+7)<=16777216:=by
          have:=ax.out
          rw[aq.out,List.length_append]at this
          have e:eI.length=8:=rfl
          omega
         have aB:Hid (eO h O A af=bra++(kIf++32::Wy)++ket++O.src false++(eI++A.src false)++gx):=by unfold Hid;rw[N.out,aq.out]
         obtain⟨V,ad⟩:∃V,mkB (A.src false)=V:=⟨_,rfl⟩
         have aK:V.size=(A.src false).length:=by rw[<-ad];rfl
         have br:Hid (bl V=A.src false):=by unfold Hid;rw[<-ad];rfl
         have aZ:Hid (Calls Tryz.prog 96 #[.slice ae A.len ce] w3 λe w'=>e=.returned (.string V)/\Below w3.heap.size w3 w'):=by
          have:=EC.out w3 ah.out bM.out (by omega)
          rw[ad]at this;exact this
         have z8:(⟨#[123,123,101,108,115,101,125,125]⟩:ByteArray).size=8:=rfl
         have z9:(⟨#[123,123,101,108,115,101,125,125]⟩++V:ByteArray).size=8+V.size:=by rw[ByteArray.size_append,z8]
         have az:(m++bl (⟨#[123,123,105,102,32]⟩++s++⟨#[125,125]⟩++I)).length+(⟨#[123,123,101,108,115,101,125,125]⟩++V:ByteArray).size<=16777216:=by rw[aE.out,z9];omega
         have bk:(m++bl (⟨#[123,123,105,102,32]⟩++s++⟨#[125,125]⟩++I)++bl (⟨#[123,123,101,108,115,101,125,125]⟩++V)).length+(⟨#[123,123,101,110,100,125,125]⟩:ByteArray).size<=16777216:=by
          rw[List.length_append,aE.out]
          show _+(⟨#[123,123,101,108,115,101,125,125]⟩++V:ByteArray).size+7<=_
          rw[z9];omega
         have bB:V.size<=16777216:=by omega
         clear R ad aK bj
         go_wp2_with fail
         refine aZ.out.mono ?_
         rintro e w4 ⟨rfl,aj⟩
         have bt:Hid (f8 w.heap.size (.slice a3 m3 c3) (m++bl (⟨#[123,123,105,102,32]⟩++s++⟨#[125,125]⟩++I)) w4):=aR.out.bel aj
         have aX:Hid (Below w.heap.size w w4):=ah.out.trans (aj.mono ah.out.size)
         have bq:=AF ((aj.block _ (dX am.out)).trans am.out)
         clear aj aZ t0 t2 t3 t4 t5 t6 t7
         go_upto_region 13 with(at_builtin;refine lB rfl _ _ rfl w.heap.size _ (m++bl (⟨#[123,123,105,102,32]⟩++s++⟨#[125,125]⟩++I)) (by rfl) bt.out (⟨#[123,123,101,108,115,101,125,125]⟩++V) (by rfl) az aX.out.size wr.heap.size _ bq.out ?_;intro v' w5 E G K;obtain⟨a5,m5,c5,rfl⟩:=E.shp;have aD:Hid (f8 w.heap.size (.slice a5 m5 c5) (m++bl (⟨#[123,123,105,102,32]⟩++s++⟨#[125,125]⟩++I)++bl (⟨#[123,123,101,108,115,101,125,125]⟩++V)) w5):=E;have au:Hid (Below w.heap.size w w5):=aX.out.trans G;have aP:=AF K;clear E G K)
         go_wp2_with (at_builtin;refine lB rfl _ _ rfl w.heap.size _ (m++bl (⟨#[123,123,105,102,32]⟩++s++⟨#[125,125]⟩++I)++bl (⟨#[123,123,101,108,115,101,125,125]⟩++V)) (by rfl) aD.out (⟨#[123,123,101,110,100,125,125]⟩) (by rfl) bk au.out.size wr.heap.size _ aP.out ?_;intro v' w6 E G K;obtain⟨a6,m6,c6,rfl⟩:=E.shp;have bu:Hid (f8 w.heap.size (.slice a6 m6 c6) (m++bl (⟨#[123,123,105,102,32]⟩++s++⟨#[125,125]⟩++I)++bl (⟨#[123,123,101,108,115,101,125,125]⟩++V)++bl (⟨#[123,123,101,110,100,125,125]⟩)) w6):=E;have bv:Hid (Below w.heap.size w w6):=au.out.trans G;have b0:=AF K;clear E G K)
         have U:Hid (m++bl (⟨#[123,123,105,102,32]⟩++s++⟨#[125,125]⟩++I)++bl (⟨#[123,123,101,108,115,101,125,125]⟩++V)++bl ⟨#[123,123,101,110,100,125,125]⟩++r.src (decide (h.kind=1))=x.src false):=by
          have:=ar.out
          rw[aB.out]at this
          unfold Hid;rw[<-this];rw[eP,eP,eP,eP,HS.out,be.out,br.out];simp[bra,ket,kIf,eI,gx,bl]
         exact⟨⟨k+1,a6,_,c6,_,r,_,rfl,by go_num,by have:=ap.out;omega,bu,U,av,ao,by omega,aa,ab,bv⟩,by simp[intOf];omega⟩
    · have N:Hid (eO h O A af=bra++(eu++32::Wy)++ket++O.src false++(if A.isNil then[]else eI++A.src false)++gx):=by
       unfold Hid eO;rw[if_neg h1,if_neg h2,if_neg h5,if_pos (by omega),Z]
       congr 7
       rw[if_pos hk]
      have J:m.length+(8+s.size+2+I.size+(if A.isNil then[]else eI++A.src false).length+7)<=16777216:=by
       have:=aU.out
       rw[N.out]at this
       simp only[List.length_append,List.length_cons]at this
       have e1:bra.length=2:=rfl
       have e2:ket.length=2:=rfl
       have e3:eu.length=5:=rfl
       have e4:gx.length=7:=rfl
       omega
      have ai:Hid (Calls Tryz.prog 137 #[.agg #[.bool h.root,.slice an h.names.length cn]] W0.drew λe w'=>e=.returned (.string s)/\Below W0.drew.heap.size W0.drew w'):=by
       have:=WC.out W0.drew (Y.out.trans ⟨rfl,rfl,rfl,AG _,λ_ _=>rfl⟩) (by omega)
       rw[Z,hs]at this;exact this
      have bo:Hid (∀W,Below w.heap.size w W->Calls Tryz.prog 96 #[.slice ak O.len ck] W λe w'=>e=.returned (.string I)/\Below W.heap.size W w'):=λW hW=>by
       have:=KC.out W hW a8 (by omega)
       rw[aH]at this;exact this
      rw[hk]at x0
      have bf:=AF hk
      clear h1 h2 h5 hk Z hs aM aJ aH a8
      go_upto_region 10 with(fail)
      have aQ:Hid (f8 w.heap.size (.slice oa on oc) m W0.drew):=aw.out
      have ay:Hid (Below w.heap.size w W0.drew):=Y.out.trans ⟨rfl,rfl,rfl,AG _,λ_ _=>rfl⟩
      have aO:Hid (W0.drew.heap[wr.heap.size]? =_):=HT.out
      have z1:(⟨#[123,123,114,97,110,103,101,32]⟩:ByteArray).size=8:=rfl
      have z2:(⟨#[125,125]⟩:ByteArray).size=2:=rfl
      have z3:(⟨#[123,123,114,97,110,103,101,32]⟩++s:ByteArray).size=8+s.size:=by rw[ByteArray.size_append,z1]
      have z6:(⟨#[123,123,114,97,110,103,101,32]⟩++s++⟨#[125,125]⟩:ByteArray).size=8+s.size+2:=by rw[ByteArray.size_append,z3,z2]
      have z7:(⟨#[123,123,114,97,110,103,101,32]⟩++s++⟨#[125,125]⟩++I:ByteArray).size=8+s.size+2+I.size:=by rw[ByteArray.size_append,z6]
      have z4:m.length+(⟨#[123,123,114,97,110,103,101,32]⟩++s++⟨#[125,125]⟩++I:ByteArray).size<=16777216:=by rw[z7];omega
      have aL:s.size<=16777216:=by omega
      have a7:I.size<=16777216:=by omega
      have y1:¬9223372036854775807<8+s.size:=by omega
      have y2:¬9223372036854775807<8+s.size+2:=by omega
      have y3:¬9223372036854775807<8+s.size+2+I.size:=by omega
      have ax:=AF J
      have HZ:=AF aG
      have bZ:=AF aF
      clear aG aF J
      go_region_law (first | (go_simp;go_at_call 137;refine ai.out.mono ?_;rintro e w1 ⟨rfl,M⟩;have aC:Hid (f8 w.heap.size (.slice oa on oc) m w1):=aQ.out.bel M;have ac:Hid (Below w.heap.size w w1):=ay.out.trans (M.mono ay.out.size);have ag:=AF ((M.block _ bc).trans aO.out);have bO:=(aA.out _ ag.out).2.2.2.2.2.1;have bn:=AF (bo.out _ ac.out);clear M) | (go_simp;go_at_call 96;refine bn.out.mono ?_;rintro e w2 ⟨rfl,al⟩;have bs:Hid (f8 w.heap.size (.slice oa on oc) m w2):=aC.out.bel al;have aW:Hid (Below w.heap.size w w2):=ac.out.trans (al.mono ac.out.size);have bp:=AF ((al.block _ (dX ag.out)).trans ag.out);clear al) | (refine jK (by rfl) _ _ (by rfl) w.heap.size _ (m) (by rfl) bs.out (⟨#[123,123,114,97,110,103,101,32]⟩++s++⟨#[125,125]⟩++I) (by rfl) z4 aW.out.size wr.heap.size _ bp.out ?_;intro v' w3 E G K;obtain⟨a3,m3,c3,rfl⟩:=E.shp;have aR:Hid (f8 w.heap.size (.slice a3 m3 c3) (m++bl (⟨#[123,123,114,97,110,103,101,32]⟩++s++⟨#[125,125]⟩++I)) w3):=E;have ah:Hid (Below w.heap.size w w3):=aW.out.trans G;have am:=AF K;clear E G K))
      all_goals
       obtain⟨t0,t2,t3,t4,t5,t6,t7⟩:=aA.out _ am.out
       have aE:Hid ((m++bl (⟨#[123,123,114,97,110,103,101,32]⟩++s++⟨#[125,125]⟩++I)).length=m.length+(8+s.size+2+I.size)):=by unfold Hid;rw[List.length_append];show _+(⟨#[123,123,114,97,110,103,101,32]⟩++s++⟨#[125,125]⟩++I:ByteArray).size=_;rw[z7]
       have aV:=AF (jP A)
       clear y1 y2 y3 z3 z6 z7 z4 aL a7 x0 x2 x3 x4 x5 x6 x7 ai
       by_cases R:A.isNil=true
       · have aq:Hid ((if A.isNil then[]else eI++A.src false)=[]):=if_pos R
         have bm:¬(0:Int)<(A.len:Int):=by rw[aV.out]at R;have:=of_decide_eq_true R;omega
         have az:(m++bl (⟨#[123,123,114,97,110,103,101,32]⟩++s++⟨#[125,125]⟩++I)).length+(⟨#[123,123,101,110,100,125,125]⟩:ByteArray).size<=16777216:=by
          rw[aE.out]
          have:=ax.out
          show _+7<=_
          omega
         have aB:Hid (eO h O A af=bra++(eu++32::Wy)++ket++O.src false++gx):=by unfold Hid;rw[N.out,aq.out,List.append_nil]
         clear R
         go_wp2_with (at_builtin;refine lB rfl _ _ rfl w.heap.size _ (m++bl (⟨#[123,123,114,97,110,103,101,32]⟩++s++⟨#[125,125]⟩++I)) (by rfl) aR.out (⟨#[123,123,101,110,100,125,125]⟩) (by rfl) az ah.out.size wr.heap.size _ am.out ?_;intro v' w5 E G K;obtain⟨a5,m5,c5,rfl⟩:=E.shp;have aD:Hid (f8 w.heap.size (.slice a5 m5 c5) (m++bl (⟨#[123,123,114,97,110,103,101,32]⟩++s++⟨#[125,125]⟩++I)++bl (⟨#[123,123,101,110,100,125,125]⟩)) w5):=E;have au:Hid (Below w.heap.size w w5):=ah.out.trans G;have aP:=AF K;clear E G K)
         have U:Hid (m++bl (⟨#[123,123,114,97,110,103,101,32]⟩++s++⟨#[125,125]⟩++I)++bl ⟨#[123,123,101,110,100,125,125]⟩++r.src (decide (h.kind=1))=x.src false):=by
          have:=ar.out
          rw[aB.out]at this
          unfold Hid;rw[<-this];rw[eP,eP,eP,HS.out,be.out];simp[bra,ket,eu,gx,bl]
         exact⟨⟨k+1,a5,_,c5,_,r,_,rfl,by go_num,by have:=ap.out;omega,aD,U,av,ao,by omega,aa,ab,au⟩,by simp[intOf];omega⟩
       · have aq:Hid ((if A.isNil then[]else eI++A.src false)=eI++A.src false):=if_neg R
         have bm:(0:Int)<(A.len:Int):=by rw[aV.out]at R;have:¬A.len=0:=λe=>R (decide_eq_true e);omega
         have bj:m.length+(8+s.size+2+I.size+(8+(A.src false).length)+7)<=16777216:=by
          have:=ax.out
          rw[aq.out,List.length_append]at this
          have e:eI.length=8:=rfl
          omega
         have aB:Hid (eO h O A af=bra++(eu++32::Wy)++ket++O.src false++(eI++A.src false)++gx):=by unfold Hid;rw[N.out,aq.out]
         obtain⟨V,ad⟩:∃V,mkB (A.src false)=V:=⟨_,rfl⟩
         have aK:V.size=(A.src false).length:=by rw[<-ad];rfl
         have br:Hid (bl V=A.src false):=by unfold Hid;rw[<-ad];rfl
         have aZ:Hid (Calls Tryz.prog 96 #[.slice ae A.len ce] w3 λe w'=>e=.returned (.string V)/\Below w3.heap.size w3 w'):=by
          have:=EC.out w3 ah.out bM.out (by omega)
          rw[ad]at this;exact this
         have z8:(⟨#[123,123,101,108,115,101,125,125]⟩:ByteArray).size=8:=rfl
         have z9:(⟨#[123,123,101,108,115,101,125,125]⟩++V:ByteArray).size=8+V.size:=by rw[ByteArray.size_append,z8]
         have az:(m++bl (⟨#[123,123,114,97,110,103,101,32]⟩++s++⟨#[125,125]⟩++I)).length+(⟨#[123,123,101,108,115,101,125,125]⟩++V:ByteArray).size<=16777216:=by rw[aE.out,z9];omega
         have bk:(m++bl (⟨#[123,123,114,97,110,103,101,32]⟩++s++⟨#[125,125]⟩++I)++bl (⟨#[123,123,101,108,115,101,125,125]⟩++V)).length+(⟨#[123,123,101,110,100,125,125]⟩:ByteArray).size<=16777216:=by
          rw[List.length_append,aE.out]
          show _+(⟨#[123,123,101,108,115,101,125,125]⟩++V:ByteArray).size+7<=_
          rw[z9];omega
         have bB:V.size<=16777216:=by omega
         clear R ad aK bj
         go_wp2_with fail
         refine aZ.out.mono ?_
         rintro e w4 ⟨rfl,aj⟩
         have bt:Hid (f8 w.heap.size (.slice a3 m3 c3) (m++bl (⟨#[123,123,114,97,110,103,101,32]⟩++s++⟨#[125,125]⟩++I)) w4):=aR.out.bel aj
         have aX:Hid (Below w.heap.size w w4):=ah.out.trans (aj.mono ah.out.size)
         have bq:=AF ((aj.block _ (dX am.out)).trans am.out)
         clear aj aZ t0 t2 t3 t4 t5 t6 t7
         go_upto_region 13 with(at_builtin;refine lB rfl _ _ rfl w.heap.size _ (m++bl (⟨#[123,123,114,97,110,103,101,32]⟩++s++⟨#[125,125]⟩++I)) (by rfl) bt.out (⟨#[123,123,101,108,115,101,125,125]⟩++V) (by rfl) az aX.out.size wr.heap.size _ bq.out ?_;intro v' w5 E G K;obtain⟨a5,m5,c5,rfl⟩:=E.shp;have aD:Hid (f8 w.heap.size (.slice a5 m5 c5) (m++bl (⟨#[123,123,114,97,110,103,101,32]⟩++s++⟨#[125,125]⟩++I)++bl (⟨#[123,123,101,108,115,101,125,125]⟩++V)) w5):=E;have au:Hid (Below w.heap.size w w5):=aX.out.trans G;have aP:=AF K;clear E G K)
         go_wp2_with (at_builtin;refine lB rfl _ _ rfl w.heap.size _ (m++bl (⟨#[123,123,114,97,110,103,101,32]⟩++s++⟨#[125,125]⟩++I)++bl (⟨#[123,123,101,108,115,101,125,125]⟩++V)) (by rfl) aD.out (⟨#[123,123,101,110,100,125,125]⟩) (by rfl) bk au.out.size wr.heap.size _ aP.out ?_;intro v' w6 E G K;obtain⟨a6,m6,c6,rfl⟩:=E.shp;have bu:Hid (f8 w.heap.size (.slice a6 m6 c6) (m++bl (⟨#[123,123,114,97,110,103,101,32]⟩++s++⟨#[125,125]⟩++I)++bl (⟨#[123,123,101,108,115,101,125,125]⟩++V)++bl (⟨#[123,123,101,110,100,125,125]⟩)) w6):=E;have bv:Hid (Below w.heap.size w w6):=au.out.trans G;have b0:=AF K;clear E G K)
         have U:Hid (m++bl (⟨#[123,123,114,97,110,103,101,32]⟩++s++⟨#[125,125]⟩++I)++bl (⟨#[123,123,101,108,115,101,125,125]⟩++V)++bl ⟨#[123,123,101,110,100,125,125]⟩++r.src (decide (h.kind=1))=x.src false):=by
          have:=ar.out
          rw[aB.out]at this
          unfold Hid;rw[<-this];rw[eP,eP,eP,eP,HS.out,be.out,br.out];simp[bra,ket,eu,eI,gx,bl]
         exact⟨⟨k+1,a6,_,c6,_,r,_,rfl,by go_num,by have:=ap.out;omega,bu,U,av,ao,by omega,aa,ab,bv⟩,by simp[intOf];omega⟩
theorem yD (n:Nat):tU n:=by
 induction n with
 | zero=>intro x h;exact absurd h (Nat.not_lt_zero _)
 | succ n m=>exact wR n m
theorem jY (x:Pt)(fr:Bool)(v:Value)(w:World)(m:x.sm)(r:x.form fr=true)(A:x.cnt<=16777216)(o:(x.src false).length<=16777216)(hx:d8 (·<w.heap.size) w v x):Calls Tryz.prog 96 #[v] w (PnP x w):=
 yD (x.cnt+1) x (Nat.lt_succ_self _) fr v w m r A o hx
theorem mA (t:Tm)(hz:TmZ t)(af:t.main.form true=true)(U:∀d∈t.defs,d.kids.form false=true)(vm vd:Value)(w:World)(hp:d8 (·<w.heap.size) w vm t.main)(hd:fU (·<w.heap.size) w vd t.defs):
 Calls Tryz.prog 59 #[.agg #[vm,vd]] w λe w'=>e=.returned (.string (mkB t.src))/\Below w.heap.size w w':=by
 obtain⟨main,defs⟩:=t
 obtain⟨z1,Z,z3,z4,z5⟩:=hz
 dsimp only at z1 Z z3 z4 hp hd af U
 have HT:Hid (Tm.src ⟨main,defs⟩=defs.flatMap kq++main.src false):=rfl
 have ae:(main.src false).length<=16777216:=by rw[HT.out,List.length_append]at z5;omega
 have MC:Hid (∀W,Below w.heap.size w W->Calls Tryz.prog 96 #[vm] W λe w'=>e=.returned (.string (mkB (main.src false)))/\Below W.heap.size W w'):=λW r=>
  jY main true vm W z1 af (by omega) ae ((hp.kept (λb E=>r.block b E)).mono (λb E=>AI E r.size))
 obtain⟨Y,V,rfl,-⟩:=hp
 obtain⟨a,c,rfl,h1,h2,h3⟩:=hd.lt
 have H3:=AF h3
 have ay:=AF Z
 have ah:=AF z5
 have aC:=AF U
 have az:=AF z3
 have aH:Hid (Below w.heap.size w (w.alloc (.cells #[.slice Y main.len V,.slice a defs.length c] 25))):=(AH _ w).alloc (AG _) _
 have ai:Hid ((w.alloc (.cells #[.slice Y main.len V,.slice a defs.length c] 25)).heap[w.heap.size]? =some (.cells #[.slice Y main.len V,.slice a defs.length c] 25 (0,0))):=heap_alloc_new w _
 have aB:Hid ((w.alloc (.cells #[.slice Y main.len V,.slice a defs.length c] 25)).heap.size=w.heap.size+1):=by unfold Hid;simp
 clear h3 hd h1 h2 z1 Z z3 z5 U ae
 go_enter Tryz.func59,Tryz.ntmps59
 go_wp2_with fail
 generalize au:World.alloc w _=W0 at*
 clear au
 go_loopw [3,4] (λv3 v4 wr=>∃(s:ByteArray) (k:Nat),v3=.string s/\v4=.int .i64 (k:Nat)/\k<=defs.length/\Hid (bl s++(defs.drop k).flatMap kq++main.src false=Tm.src ⟨main,defs⟩)/\Hid (Below (w.heap.size+1) W0 wr)) (λ_ i _=>defs.length - (intOf i).toNat)
 case atStart=>exact⟨⟨#[]⟩,0,rfl,rfl,Nat.zero_le _,by unfold Hid;rw[HT.out];rfl,AH _ _⟩
 case round=>
  obtain⟨s,k,rfl,rfl,hk,HE,HB⟩:=hrel
  have m:Hid (Below w.heap.size w wr):=aH.out.trans (HB.out.mono (by omega))
  have al:w.heap.size+1<=wr.heap.size:=by have:=HB.out.size;have:=aB.out;omega
  have t0:wr.cell? ⟨w.heap.size,0,none⟩=some (.slice Y main.len V):=by rw[dW ((HB.out.block _ (by omega)).trans ai.out)];rfl
  have t1:wr.cell? ⟨w.heap.size,1,none⟩=some (.slice a defs.length c):=by rw[dW ((HB.out.block _ (by omega)).trans ai.out)];rfl
  have ac:s.size+(main.src false).length<=16777216:=by
   have:=ah.out;rw[<-HE.out]at this
   simp only[List.length_append]at this
   have e:(bl s).length=s.size:=rfl
   omega
  by_cases G:k<defs.length
  · have aI:(k:Int)<(defs.length:Int):=by omega
    have aK:(0:Int)<=(k:Int):=by omega
    obtain⟨d,M⟩:∃d,defs[k]? =some d:=⟨_,List.getElem?_eq_getElem G⟩
    obtain⟨b,o,rfl,E,R⟩:=H3.out (by intro e;rw[e]at G;simp at G)
    obtain⟨g0,g1,v,g2,ad⟩:=hZ.at _ _ _ _ _ M (R.kept (λb E=>m.out.block b E.2) _ _ _ E)
    have K:d∈defs:=List.mem_of_getElem? M
    have ar:=iX K
    have O:Hid (bl s++kq d++(defs.drop (k+1)).flatMap kq++main.src false=Tm.src ⟨main,defs⟩):=by
     have:=HE.out
     rw[lh _ _ _ M]at this
     unfold Hid;rw[<-this];simp
    have aq:s.size+(d.name.size+11+(d.kids.src false).length+7)<=16777216:=by
     have h1:=ah.out;rw[<-O.out]at h1
     simp only[List.length_append,kq]at h1
     simp[bra,ket,lK,gx,bl]at h1
     have e:s.data.size=s.size:=rfl
     have e2:d.name.data.size=d.name.size:=rfl
     omega
    obtain⟨A,J⟩:∃A,mkB (d.kids.src false)=A:=⟨_,rfl⟩
    have ab:A.size=(d.kids.src false).length:=by rw[<-J];rfl
    have aA:Hid (bl A=d.kids.src false):=by unfold Hid;rw[<-J];rfl
    have ak:wr.heap.size<=wr.heap.size:=AG _
    have KC:Hid (∀W,Below wr.heap.size wr W->Calls Tryz.prog 96 #[v] W λe w'=>e=.returned (.string A)/\Below W.heap.size W w'):=λW r=>by
     have:=jY d.kids false v W (ay.out d K).2 (aC.out d K) (by have:=az.out;omega) (by omega) ((ad.kept (λb E=>r.block b (by have:=E.2;have:=m.out.size;omega))).mono (λb E=>by have:=E.2;have:=r.size;have:=m.out.size;omega))
     unfold PnP at this
     rw[J]at this;exact this
    obtain⟨av,cv,rfl,-⟩:=ad
    have ag:b<wr.heap.size:=by have:=E.2;have:=m.out.size;omega
    have z1:(⟨#[123,123,100,101,102,105,110,101,32]⟩:ByteArray).size=9:=rfl
    have Z:(⟨#[125,125]⟩:ByteArray).size=2:=rfl
    have z3:(s++⟨#[123,123,100,101,102,105,110,101,32]⟩:ByteArray).size=s.size+9:=by rw[ByteArray.size_append,z1]
    have z6:(s++⟨#[123,123,100,101,102,105,110,101,32]⟩++d.name:ByteArray).size=s.size+9+d.name.size:=by rw[ByteArray.size_append,z3]
    have z7:(s++⟨#[123,123,100,101,102,105,110,101,32]⟩++d.name++⟨#[125,125]⟩:ByteArray).size=s.size+9+d.name.size+2:=by rw[ByteArray.size_append,z6,Z]
    have z8:(s++⟨#[123,123,100,101,102,105,110,101,32]⟩++d.name++⟨#[125,125]⟩++A:ByteArray).size=s.size+9+d.name.size+2+A.size:=by rw[ByteArray.size_append,z7]
    have z9:(⟨#[123,123,101,110,100,125,125]⟩:ByteArray).size=7:=rfl
    have ap:s.size<=16777216:=by omega
    have ao:d.name.size<=16777216:=by omega
    have aJ:A.size<=16777216:=by omega
    have y1:¬9223372036854775807<s.size+9:=by omega
    have y2:¬9223372036854775807<s.size+9+d.name.size:=by omega
    have y3:¬9223372036854775807<s.size+9+d.name.size+2:=by omega
    have y4:¬9223372036854775807<s.size+9+d.name.size+2+A.size:=by omega
    have y5:¬9223372036854775807<s.size+9+d.name.size+2+A.size+7:=by omega
    have aa:w.heap.size<wr.heap.size:=by omega
    have aE:Hid (Below wr.heap.size wr wr.drew):=⟨rfl,rfl,rfl,AG _,λ_ _=>rfl⟩
    have aj:Hid (∀W,Below wr.heap.size wr W->Hid (Below wr.heap.size wr W)/\W.cell? ⟨w.heap.size,1,none⟩=some (.slice (some ⟨b,o,none⟩) defs.length c)/\W.cell? ⟨b,o+k*3,none⟩=some (.string d.name)/\W.cell? ⟨b,o+k*3+2,none⟩=some (.slice av d.kids.len cv)):=λW r=>
     ⟨r,(r.cell (p:=⟨w.heap.size,1,none⟩) aa).trans t1,(r.cell (p:=⟨b,_,none⟩) ag).trans g0,(r.cell (p:=⟨b,_,none⟩) ag).trans g2⟩
    have ax:Hid (∀W,Hid (Below wr.heap.size wr W)->Calls Tryz.prog 96 #[.slice av d.kids.len cv] W λe w'=>e=.returned (.string A)/\Hid (Below wr.heap.size wr w')):=λW r=>(KC.out W r.out).mono (λe w' h=>⟨h.1,r.out.trans (h.2.mono r.out.size)⟩)
    clear M R K G ar ab aq J t0 g1 KC ac ak al
    go_upto_region 5 with(fail)
    go_region_held3 (λW=>Hid (Below wr.heap.size wr W)/\W.cell? ⟨w.heap.size,1,none⟩=some (.slice (some ⟨b,o,none⟩) defs.length c)/\W.cell? ⟨b,o+k*3,none⟩=some (.string d.name)/\W.cell? ⟨b,o+k*3+2,none⟩=some (.slice av d.kids.len cv)) (first | exact aj.out _ aE.out | (apply aj.out;exact Hid.out (by assumption))) (first | (go_at_call 96;refine(ax.out _ (by assumption)).mono ?_;rintro e w2 ⟨rfl,N⟩))
    have aF:Hid (Below (w.heap.size+1) W0 w2):=HB.out.trans (N.out.mono aa)
    have aD:Hid (bl (s++⟨#[123,123,100,101,102,105,110,101,32]⟩++d.name++⟨#[125,125]⟩++A++⟨#[123,123,101,110,100,125,125]⟩)++(defs.drop (k+1)).flatMap kq++main.src false=Tm.src ⟨main,defs⟩):=by
     unfold Hid;rw[<-O.out,eP,eP,eP,eP,eP,aA.out]
     simp[kq,bra,ket,lK,gx,bl]
    clear y1 y2 y3 y4 y5 z3 z6 z7 z8
    go_wp2_with fail
    exact⟨⟨_,k+1,by rfl,by go_num,by omega,aD,aF⟩,by simp[intOf];omega⟩
  · have aL:¬(k:Int)<(defs.length:Int):=by omega
    have O:Hid (bl s++main.src false=Tm.src ⟨main,defs⟩):=by
     have:=HE.out
     rw[List.drop_of_length_le (by omega)]at this
     unfold Hid;simpa using this
    obtain⟨sm,I⟩:∃sm,mkB (main.src false)=sm:=⟨_,rfl⟩
    have aw:Hid (Calls Tryz.prog 96 #[.slice Y main.len V] wr λe w'=>e=.returned (.string sm)/\Below wr.heap.size wr w'):=by
     have:=MC.out wr m.out;rw[I]at this;exact this
    have an:sm.size=(main.src false).length:=by rw[<-I];rfl
    have ap:s.size<=16777216:=by omega
    have ao:sm.size<=16777216:=by omega
    have HF:Hid (s++sm=mkB (Tm.src ⟨main,defs⟩)):=by
     unfold Hid;rw[<-O.out,←gW (s++sm),eP,←I];rfl
    clear G an I ac
    go_wp2_with fail
    refine aw.out.mono ?_
    rintro e w2 ⟨rfl,N⟩
    have aG:Hid (Below w.heap.size w w2):=m.out.trans (N.mono m.out.size)
    clear N t0 t1
    go_wp2_with fail
    go_ret
    exact⟨congrArg (λx=>Ending.returned (.string x)) HF.out,aG.out⟩
def nmD (l:List Df):List By:=l.map λd=>bl d.name
theorem lQ (l:List Df)(k:Nat)(d:Df)(h:l[k]? =some d):l.take (k+1)=l.take k++[d]:=by
 have m:=(List.getElem?_eq_some_iff.1 h).1
 rw[List.take_succ_eq_append_getElem m]
 rw[(List.getElem?_eq_some_iff.1 h).2]
theorem vt (t:Tm):t.check=if(t.main.form true&&t.defs.all okD)=false then 190 else if 64<max t.main.deep (iK t.defs)then 193 else if twice (nmD t.defs)=true then 194 else if(!t.main.called t.defs|| !(t.defs.all λd=>d.kids.called t.defs))=true then 195 else if 1024<t.main.cnt+oq t.defs\/16384<t.src.length then 196 else 0:=by
 unfold Tm.check
 have e:(!t.main.called t.defs|| !(t.defs.all λd=>d.kids.called t.defs))= !(t.main.called t.defs&&t.defs.all λd=>d.kids.called t.defs):=by
  cases t.main.called t.defs <;> simp
 rw[e]
 cases m:(t.main.called t.defs&&t.defs.all λd=>d.kids.called t.defs)
 · rfl
 · rfl
theorem ox (t:Tm)(hz:TmZ t)(vm vd:Value)(w:World)(hp:d8 (·<w.heap.size) w vm t.main)(hd:fU (·<w.heap.size) w vd t.defs):Calls Tryz.prog 34 #[.agg #[vm,vd]] w (mt t w):=by
 have SC:Hid (t.main.form true=true->(∀d∈t.defs,d.kids.form false=true)->∀W,Below w.heap.size w W->Calls Tryz.prog 59 #[.agg #[vm,vd]] W λe w'=>e=.returned (.string (mkB t.src))/\Below W.heap.size W w'):=λh1 h2 W A=>
  mA t hz h1 h2 vm vd W ((hp.kept (eL.of_below A)).mono (λb K=>AI K A.size)) ((hd.kept (eL.of_below A)).mono (λb K=>AI K A.size))
 have aT:=AF (vt t)
 obtain⟨main,defs⟩:=t
 obtain⟨z1,z2,z3,z4,z5⟩:=hz
 dsimp only at z1 z2 z3 z4 hp hd SC
 obtain⟨L,hL⟩:∃L,(Tm.src ⟨main,defs⟩).length=L:=⟨_,rfl⟩
 rw[hL]at z5 aT
 have HL:=AF hL
 have FC:Hid (∀W,Below w.heap.size w W->Calls Tryz.prog 54 #[vm,.bool true] W λe w'=>e=.returned (.bool (main.form true))/\Below W.heap.size W w'):=λW A=>
  k8 main true vm W z1 (by omega) ((hp.kept (eL.of_below A)).mono (λb K=>AI K A.size))
 have DC:Hid (∀W,Below w.heap.size w W->Calls Tryz.prog 55 #[vm] W λe w'=>e=.returned (.int .i64 (main.deep:Nat))/\Below W.heap.size W w'):=λW A=>
  (ll main _ vm W (by omega) (hp.kept (eL.of_below A))).mono λe w' h=>⟨h.1,by obtain⟨n,rfl⟩:=h.2;exact ei (AH _ _) n⟩
 have CC:Hid (∀W,Below w.heap.size w W->Calls Tryz.prog 56 #[vm] W λe w'=>e=.returned (.int .i64 (main.cnt:Nat))/\Below W.heap.size W w'):=λW A=>
  (j9 main _ vm W (by omega) (hp.kept (eL.of_below A))).mono λe w' h=>⟨h.1,by obtain⟨n,rfl⟩:=h.2;exact ei (AH _ _) n⟩
 have LC:Hid (∀W,Below w.heap.size w W->Calls Tryz.prog 57 #[vm,vd] W λe w'=>e=.returned (.bool (main.called defs))/\Below W.heap.size W w'):=λW A=>
  (jB defs z4 main _ _ vm vd W (by omega) (hp.kept (eL.of_below A)) (hd.kept (eL.of_below A))).mono λe w' h=>⟨h.1,by obtain⟨n,rfl⟩:=h.2;exact ei (AH _ _) n⟩
 have b8:=AF hd
 obtain⟨am,cm,rfl,-⟩:=hp
 obtain⟨a,c,rfl,h1,h2,h3⟩:=hd.lt
 have H3:=AF h3
 have bY:=AF z2
 have bX:=AF z4
 have b3:=AF z3
 have aB:=jy main
 have cy:main.cnt<=16000000:=by omega
 obtain⟨ab,ag⟩:∃x,(main.form true&&defs.all okD)=x:=⟨_,rfl⟩
 obtain⟨D,hD⟩:∃x,max main.deep (iK defs)=x:=⟨_,rfl⟩
 obtain⟨tw,aI⟩:∃x,twice (nmD defs)=x:=⟨_,rfl⟩
 obtain⟨N,hN⟩:∃x,(!main.called defs|| !(defs.all λd=>d.kids.called defs))=x:=⟨_,rfl⟩
 obtain⟨M,hM⟩:∃x,main.cnt+oq defs=x:=⟨_,rfl⟩
 have aF:=AF ag
 have HD:=AF hD
 have b0:=AF aI
 have HN:=AF hN
 have HM:=AF hM
 have cz:M<=16000000:=by rw[<-hM];exact z3
 have az:Hid (Tm.check ⟨main,defs⟩=if ab=false then 190 else if 64<D then 193 else if tw=true then 194 else if N=true then 195 else if 1024<M\/16384<L then 196 else 0):=by
  unfold Hid;rw[aT.out]
  dsimp only
  rw[ag,hD,aI,hN,hM]
 have ce:Hid (Below w.heap.size w (w.alloc (.cells #[.slice am main.len cm,.slice a defs.length c] 25))):=(AH w.heap.size w).alloc (AG _) _
 have bt:Hid ((w.alloc (.cells #[.slice am main.len cm,.slice a defs.length c] 25)).heap[w.heap.size]? =some (.cells #[.slice am main.len cm,.slice a defs.length c] 25 (0,0))):=heap_alloc_new w _
 have bu:Hid ((w.alloc (.cells #[.slice am main.len cm,.slice a defs.length c] 25)).heap.size=w.heap.size+1):=by unfold Hid;simp
 clear h3 hd h1 h2 z1 z2 z3 ag hD aI hN hM aT hL
 go_enter Tryz.func34,Tryz.ntmps34
 go_upto_region 1 with(fail)
 generalize bN:World.alloc w _=U at*
 clear bN
 have O:Hid (∀W,Below (w.heap.size+1) U W->W.cell? ⟨w.heap.size,0,none⟩=some (.slice am main.len cm)/\W.cell? ⟨w.heap.size,1,none⟩=some (.slice a defs.length c)/\Below w.heap.size w W/\w.heap.size+1<=W.heap.size):=λW A=>
  ⟨by rw[dW ((A.block _ (by omega)).trans bt.out)];rfl,by rw[dW ((A.block _ (by omega)).trans bt.out)];rfl,ce.out.trans (A.mono (by omega)),by have:=A.size;rw[bu.out]at this;exact this⟩
 have bs:Hid (Below (w.heap.size+1) U U):=AH _ _
 obtain⟨fm,aM⟩:∃x,main.form true=x:=⟨_,rfl⟩
 obtain⟨cd,al⟩:∃x,main.called defs=x:=⟨_,rfl⟩
 rw[aM]at FC
 rw[al]at LC
 have b7:=AF aM
 have ca:=AF al
 clear aM al
 obtain⟨t0,R,bk,bM⟩:=O.out _ bs.out
 have bH:=AF (FC.out _ bk)
 clear bk bM
 go_wp2_with fail
 refine bH.out.mono ?_
 rintro e w1 ⟨rfl,aq⟩
 have br:Hid (Below (w.heap.size+1) U w1):=bs.out.trans (aq.mono (by rw[bu.out];exact AG _))
 clear aq t0 R bH
 obtain⟨t0,R,aq,ba⟩:=O.out _ br.out
 have bJ:=AF (DC.out _ aq)
 have a8:=AF ba
 clear aq ba
 go_wp2_with fail
 refine bJ.out.mono ?_
 rintro e w2 ⟨rfl,ap⟩
 have bq:Hid (Below (w.heap.size+1) U w2):=br.out.trans (ap.mono a8.out)
 clear ap t0 R bJ
 obtain⟨t0,R,ap,a7⟩:=O.out _ bq.out
 have bL:=AF (CC.out _ ap)
 have a6:=AF a7
 clear ap a7
 go_wp2_with fail
 refine bL.out.mono ?_
 rintro e w3 ⟨rfl,ao⟩
 have bp:Hid (Below (w.heap.size+1) U w3):=bq.out.trans (ao.mono a6.out)
 clear ao t0 R bL
 obtain⟨t0,R,ao,aZ⟩:=O.out _ bp.out
 have bo:=AF (LC.out _ ao)
 have aY:=AF aZ
 clear ao aZ
 go_wp2_with fail
 refine bo.out.mono ?_
 rintro e w4 ⟨rfl,bj⟩
 have bZ:Hid (Below (w.heap.size+1) U w4):=bp.out.trans (bj.mono aY.out)
 clear bj t0 R bo
 have be:main.deep<=16777217:=by omega
 have b6:Hid ((fm&&(defs.drop 0).all okD)=ab):=by unfold Hid;rw[<-aF.out,b7.out];rfl
 have aw:Hid (max main.deep (iK (defs.drop 0))=D):=HD.out
 have b5:Hid (main.cnt+oq (defs.drop 0)=M):=HM.out
 have b4:Hid ((!cd|| !((defs.drop 0).all λd=>d.kids.called defs))=N):=by unfold Hid;rw[<-HN.out,ca.out];rfl
 go_wp2_with fail
 go_loopw [3,4,5,6,7,8] (λv3 v4 v5 v6 v7 v8 wr=>∃(ok tk no:Bool) (dp ct k:Nat),v3=.bool ok/\v4=.int .i64 (dp:Nat)/\v5=.int .i64 (ct:Nat)/\v6=.bool tk/\v7=.bool no/\v8=.int .i64 (k:Nat)/\k<=defs.length/\dp<=16777217/\Hid ((ok&&(defs.drop k).all okD)=ab)/\Hid (max dp (iK (defs.drop k))=D)/\ct+oq (defs.drop k)=M/\Hid (tk=twice (nmD (defs.take k)))/\Hid ((no|| !((defs.drop k).all λd=>d.kids.called defs))=N)/\Hid (Below (w.heap.size+1) U wr)) (λ_ _ _ _ _ i _=>defs.length - (intOf i).toNat)
 case atStart=>exact⟨fm,false,!cd,main.deep,main.cnt,0,rfl,rfl,rfl,rfl,rfl,rfl,Nat.zero_le _,be,b6,aw,b5.out,rfl,b4,bZ⟩
 case round=>
  obtain⟨ok,tk,no,dp,ct,k,rfl,rfl,rfl,rfl,rfl,rfl,hk,cu,aS,aR,ar,aQ,aP,HB⟩:=hrel
  obtain⟨t0,R,r,G⟩:=O.out _ HB.out
  have E:=AF r
  clear r
  by_cases aj:k<defs.length
  · have cg:(k:Int)<(defs.length:Int):=by omega
    have co:(0:Int)<=(k:Int):=by omega
    obtain⟨d,ak⟩:∃d,defs[k]? =some d:=⟨_,List.getElem?_eq_getElem aj⟩
    obtain⟨b,o,rfl,K,ad⟩:=H3.out (by intro e;rw[e]at aj;simp at aj)
    obtain⟨bn,bU,v,bm,ae⟩:=hZ.at _ _ _ _ _ ak ad
    have aB:d∈defs:=List.mem_of_getElem? ak
    have al:=iX aB
    obtain⟨ci,aW⟩:=bY.out d aB
    have ch:d.kids.cnt<=16000000:=by have:=b3.out;omega
    have cw:=jy d.kids
    have aD:=AF (jU defs k d ak)
    have b1:=AF (lQ defs k d ak)
    have bv:Hid (∀j (y:Df),defs[j]? =some y->w.cell? ⟨b,o+j*3,none⟩=some (.string y.name)):=λj y hj=>(hZ.at _ _ _ _ _ hj ad).1
    have HG:Hid (∀W,Below w.heap.size w W->W.cell? ⟨b,o+k*3,none⟩=some (.string d.name)/\W.cell? ⟨b,o+k*3+2,none⟩=some v):=λW A=>
     ⟨(A.cell (p:=⟨b,_,none⟩) K.2).trans bn,(A.cell (p:=⟨b,_,none⟩) K.2).trans bm⟩
    have FK:Hid (∀W,Below w.heap.size w W->Calls Tryz.prog 54 #[v,.bool false] W λe w'=>e=.returned (.bool (d.kids.form false))/\Below W.heap.size W w'):=λW A=>
     k8 d.kids false v W aW (by omega) ((ae.kept (λb K=>A.block b K.2)).mono (λb K=>AI K.2 A.size))
    have DK:Hid (∀W,Below w.heap.size w W->Calls Tryz.prog 55 #[v] W λe w'=>e=.returned (.int .i64 (d.kids.deep:Nat))/\Below W.heap.size W w'):=λW A=>
     (ll d.kids _ v W (by omega) (ae.kept (λb K=>A.block b K.2))).mono λe w' h=>⟨h.1,by obtain⟨n,rfl⟩:=h.2;exact ei (AH _ _) n⟩
    have CK:Hid (∀W,Below w.heap.size w W->Calls Tryz.prog 56 #[v] W λe w'=>e=.returned (.int .i64 (d.kids.cnt:Nat))/\Below W.heap.size W w'):=λW A=>
     (j9 d.kids _ v W (by omega) (ae.kept (λb K=>A.block b K.2))).mono λe w' h=>⟨h.1,by obtain⟨n,rfl⟩:=h.2;exact ei (AH _ _) n⟩
    have LK:Hid (∀W,Below w.heap.size w W->Calls Tryz.prog 57 #[v,.slice (some ⟨b,o,none⟩) defs.length c] W λe w'=>e=.returned (.bool (d.kids.called defs))/\∃m,w'=W.drewN m):=λW A=>
     jB defs bX.out d.kids _ _ v _ W (by omega) (ae.kept (λb K=>A.block b K.2)) (b8.out.kept (λb K=>A.block b K))
    have NK:Hid (∀W,Calls Tryz.prog 58 #[.string d.name] W λe w'=>e=.returned (.bool (eK (bl d.name)))/\W=w'):=λW=>kS d.name (by omega) W
    obtain⟨av,cv,rfl,-⟩:=ae
    obtain⟨Z,af⟩:∃x,(ok&&okD d)=x:=⟨_,rfl⟩
    obtain⟨ac,ai⟩:∃x,(no|| !d.kids.called defs)=x:=⟨_,rfl⟩
    have au:=AF af
    have aG:=AF ai
    have aa:ct+d.kids.cnt+oq (defs.drop (k+1))=M:=by rw[aD.out,gL]at ar;omega
    have bB:Hid ((Z&&(defs.drop (k+1)).all okD)=ab):=by unfold Hid;rw[<-aS.out,aD.out,←af];simp[Bool.and_assoc]
    have bA:Hid (max (max dp (1+d.kids.deep)) (iK (defs.drop (k+1)))=D):=by unfold Hid;rw[<-aR.out,aD.out,gJ,Nat.max_assoc]
    have bw:Hid ((ac|| !((defs.drop (k+1)).all λd=>d.kids.called defs))=N):=by
     unfold Hid;rw[<-aP.out,aD.out,←ai]
     simp only[List.all_cons,Bool.not_and,Bool.or_assoc]
    clear ak ad aB aj al bn bU bm aW af ai ar
    obtain⟨g0,g2⟩:=HG.out _ E.out
    go_upto_region 9 with(fail)
    go_cut [3] (λv3 wx=>v3=.bool Z/\Hid (Below (w.heap.size+1) U wx))
    case first=>
     cases ok with
     | false=>
       have J:Hid (false=Z):=by rw[<-au.out];rfl
       go_wp2_with fail
       go_meet
       case rel=>exact⟨by rw[J.out],HB⟩
     | true=>
       have aC:=AF (NK.out wr)
       cases hn:eK (bl d.name)with
       | false=>
         have J:Hid (false=Z):=by rw[<-au.out];unfold okD;rw[hn];rfl
         rw[hn]at aC
         clear hn
         go_wp2_with (go_at_call 58;refine aC.out.mono ?_;rintro e w' ⟨rfl,rfl⟩)
         go_meet
         case rel=>exact⟨by rw[J.out],HB⟩
       | true=>
         obtain⟨fv,aL⟩:∃x,d.kids.form false=x:=⟨_,rfl⟩
         have J:Hid (fv=Z):=by rw[<-au.out];unfold okD;rw[hn,aL];rfl
         rw[hn]at aC
         have bG:=AF (FK.out _ E.out)
         rw[aL]at bG
         clear hn aL
         go_wp2_with (first | (go_at_call 58;refine aC.out.mono ?_;rintro e w' ⟨rfl,rfl⟩) | (go_at_call 54;refine bG.out.mono ?_;rintro e w5 ⟨rfl,bi⟩;have cc:Hid (Below (w.heap.size+1) U w5):=HB.out.trans (bi.mono G);clear bi))
         go_meet
         case rel=>exact⟨by rw[J.out],cc⟩
    case rest=>
     obtain⟨rfl,bD⟩:=hcut
     clear t0 R g0 g2 G E
     obtain⟨t0,R,r,G⟩:=O.out _ bD.out
     obtain⟨g0,g2⟩:=HG.out _ r
     have bI:=AF (DK.out _ r)
     clear r
     go_wp2_with fail
     refine bI.out.mono ?_
     rintro e w6 ⟨rfl,bh⟩
     have bF:Hid (Below (w.heap.size+1) U w6):=bD.out.trans (bh.mono G)
     clear bh t0 R g0 g2 G bI
     obtain⟨t0,R,r,G⟩:=O.out _ bF.out
     obtain⟨g0,g2⟩:=HG.out _ r
     have bK:=AF (CK.out _ r)
     clear r
     go_wp2_with fail
     refine bK.out.mono ?_
     rintro e w7 ⟨rfl,bg⟩
     have aV:Hid (Below (w.heap.size+1) U w7):=bF.out.trans (bg.mono G)
     clear bg t0 R g0 g2 G bK
     obtain⟨t0,R,r,G⟩:=O.out _ aV.out
     obtain⟨g0,g2⟩:=HG.out _ r
     have aH:=AF r
     clear r
     go_upto_region 12 with(fail)
     go_cut [7] (λv7 wx=>v7=.bool ac/\Hid (Below (w.heap.size+1) U wx))
     case first=>
      cases no with
      | true=>
        have J:Hid (true=ac):=by rw[<-aG.out];rfl
        go_wp2_with fail
        go_quiet (fail)
        generalize I:World.drewN w7 _=wq
        have V:Hid (Below (w.heap.size+1) U wq):=by rw[<-I];exact ei aV.out _
        clear I
        go_wp2_with fail
        go_meet
        case rel=>exact⟨by rw[J.out],V⟩
      | false=>
        obtain⟨lv,aJ⟩:∃x,d.kids.called defs=x:=⟨_,rfl⟩
        have J:Hid ((!lv)=ac):=by rw[<-aG.out,aJ];rfl
        have bW:Hid (∀n,Calls Tryz.prog 57 #[.slice av d.kids.len cv,.slice (some ⟨b,o,none⟩) defs.length c] (w7.drewN n) λe w'=>e=.returned (.bool lv)/\∃m,w'=(w7.drewN n).drewN m):=λn=>by
         have:=LK.out (w7.drewN n) (ei aH.out n)
         rw[aJ]at this;exact this
        clear aJ
        go_wp2_with fail
        go_quiet ((go_at_call 57;exact Calls.quiet_of (bW.out _)))
        generalize I:World.drewN w7 _=wq
        have V:Hid (Below (w.heap.size+1) U wq):=by rw[<-I];exact ei aV.out _
        clear I
        go_wp2_with fail
        go_meet
        case rel=>exact⟨by rw[J.out],V⟩
     case rest=>
      obtain⟨rfl,cb⟩:=hcut
      clear t0 R g0 g2 G aH
      have cn:k<=defs.length:=by omega
      go_wp2_with fail
      go_loopw [6,9] (λv6 v9 wi=>∃(t:Bool) (j:Nat),v6=.bool t/\v9=.int .i64 (j:Nat)/\j<=k/\Hid (t=(tk||(nmD (defs.take j)).contains (bl d.name)))/\Hid (Below (w.heap.size+1) U wi)) (λ_ j _=>k - (intOf j).toNat)
      case atStart=>exact⟨tk,0,rfl,rfl,Nat.zero_le _,by unfold Hid;cases tk <;> rfl,cb⟩
      case round=>
       obtain⟨t,j,rfl,rfl,hj,HI,aE⟩:=hrel
       obtain⟨t0,R,r,G⟩:=O.out _ aE.out
       obtain⟨g0,g2⟩:=HG.out _ r
       have bE:=AF r
       clear r
       have cq:(0:Int)<=(j:Int):=by omega
       by_cases bd:j<k
       · have bc:(j:Int)<(k:Int):=by omega
         have cp:(j:Int)<(defs.length:Int):=by omega
         obtain⟨y,aK⟩:∃y,defs[j]? =some y:=⟨_,List.getElem?_eq_getElem (by omega)⟩
         have pd:wr.cell? ⟨b,o+j*3,none⟩=some (.string y.name):=(bE.out.cell (p:=⟨b,_,none⟩) K.2).trans (bv.out j y aK)
         have b2:=AF (lQ defs j y aK)
         have bC:Hid ((nmD (defs.take (j+1))).contains (bl d.name)=((nmD (defs.take j)).contains (bl d.name)||(bl y.name==bl d.name))):=by
          unfold Hid nmD
          rw[b2.out,List.map_append]
          rw[Bool.eq_iff_iff,Bool.or_eq_true,List.contains_iff_mem,List.contains_iff_mem,List.mem_append,beq_iff_eq]
          simp only[List.map_cons,List.map_nil,List.mem_singleton]
          exact⟨λh=>h.imp id Eq.symm,λh=>h.imp id Eq.symm⟩
         clear aK bd
         cases t with
         | true=>
           have aw:Hid (true=(tk||(nmD (defs.take (j+1))).contains (bl d.name))):=by
            unfold Hid;rw[bC.out,←Bool.or_assoc,←HI.out];rfl
           go_wp2_with fail
           go_quiet (fail)
           generalize I:World.drewN wr _=wq
           have V:Hid (Below (w.heap.size+1) U wq):=by rw[<-I];exact ei aE.out _
           clear I
           go_wp2_with fail
           exact⟨⟨true,j+1,rfl,by go_num,by omega,aw,V⟩,by simp[intOf];omega⟩
         | false=>
           obtain⟨q,hq⟩:∃q,(bl y.name==bl d.name)=q:=⟨_,rfl⟩
           have cj:(y.name.toList==d.name.toList)=q:=by rw[ByteArray.toList_eq,ByteArray.toList_eq];exact hq
           have aw:Hid (q=(tk||(nmD (defs.take (j+1))).contains (bl d.name))):=by
            unfold Hid;rw[bC.out,←Bool.or_assoc,←HI.out,hq];rfl
           clear hq
           go_wp2_with fail
           go_quiet (fail)
           generalize I:World.drewN wr _=wq
           have V:Hid (Below (w.heap.size+1) U wq):=by rw[<-I];exact ei aE.out _
           clear I
           go_wp2_with fail
           exact⟨⟨q,j+1,rfl,by go_num,by omega,aw,V⟩,by simp[intOf];omega⟩
       · have bc:¬(j:Int)<(k:Int):=by omega
         obtain rfl:j=k:=by omega
         have bz:Hid (t=twice (nmD (defs.take (j+1)))):=by
          unfold Hid nmD
          rw[HI.out,b1.out,List.map_append,List.map_cons,List.map_nil,fj]
          rw[aQ.out];rfl
         clear bd
         go_wp2_with fail
         exact⟨⟨Z,t,ac,max dp (1+d.kids.deep),ct+d.kids.cnt,j+1,rfl,by first | rfl | (congr 1;(repeat' split) <;> omega),by go_num,rfl,rfl,by go_num,by omega,by omega,bB,bA,aa,bz,bw,aE⟩,by simp[intOf];omega⟩
  · have cr:¬(k:Int)<(defs.length:Int):=by omega
    obtain rfl:k=defs.length:=by omega
    have bT:ok=ab:=by have:=aS.out;rw[List.drop_of_length_le (AG _)]at this;simpa using this
    have bS:dp=D:=by have:=aR.out;rw[List.drop_of_length_le (AG _)]at this;simpa[iK]using this
    have bR:ct=M:=by rw[List.drop_of_length_le (AG _)]at ar;simpa[oq]using ar
    have bQ:tk=tw:=by have:=aQ.out;rw[List.take_of_length_le (AG _)]at this;rw[this];exact b0.out
    have bP:no=N:=by have:=aP.out;rw[List.drop_of_length_le (AG _)]at this;simpa using this
    subst bT bS bR bQ bP
    clear aS aR ar aQ aP aj
    cases ok with
    | false=>
      have J:Hid (Tm.check ⟨main,defs⟩=190):=by unfold Hid;rw[az.out];rfl
      go_wp2_with fail
      go_ret
      exact⟨by rw[J.out];rfl,E.out⟩
    | true=>
      by_cases Y:64<dp
      · have aN:(64:Int)<(dp:Int):=by omega
        have J:Hid (Tm.check ⟨main,defs⟩=193):=by unfold Hid;rw[az.out,if_neg (by decide),if_pos Y]
        clear Y
        go_wp2_with fail
        go_ret
        exact⟨by rw[J.out];rfl,E.out⟩
      · have aN:¬(64:Int)<(dp:Int):=by omega
        have ay:Hid (Tm.check ⟨main,defs⟩=if tk=true then 194 else if no=true then 195 else if 1024<ct\/16384<L then 196 else 0):=by unfold Hid;rw[az.out,if_neg (by decide),if_neg Y]
        clear Y
        cases tk with
        | true=>
          have J:Hid (Tm.check ⟨main,defs⟩=194):=by unfold Hid;rw[ay.out];rfl
          go_wp2_with fail
          go_ret
          exact⟨by rw[J.out];rfl,E.out⟩
        | false=>
          cases no with
          | true=>
            have J:Hid (Tm.check ⟨main,defs⟩=195):=by unfold Hid;rw[ay.out];rfl
            go_wp2_with fail
            go_ret
            exact⟨by rw[J.out];rfl,E.out⟩
          | false=>
            have ax:Hid (Tm.check ⟨main,defs⟩=if 1024<ct\/16384<L then 196 else 0):=by unfold Hid;rw[ay.out];rfl
            by_cases aa:1024<ct
            · have bf:(1024:Int)<(ct:Int):=by omega
              have J:Hid (Tm.check ⟨main,defs⟩=196):=by unfold Hid;rw[ax.out,if_pos (.inl aa)]
              clear aa
              go_wp2_with fail
              go_ret
              exact⟨by rw[J.out];rfl,E.out⟩
            · have bf:¬(1024:Int)<(ct:Int):=by omega
              have ah:=aF.out
              rw[Bool.and_eq_true,List.all_eq_true]at ah
              have aO:=AF (SC.out ah.1 (λd hd=>by have:=ah.2 d hd;unfold okD at this;rw[Bool.and_eq_true]at this;exact this.2) _ E.out)
              obtain⟨sr,aA⟩:∃sr,mkB (Tm.src ⟨main,defs⟩)=sr:=⟨_,rfl⟩
              rw[aA]at aO
              have aX:sr.size=L:=by rw[<-aA,←HL.out];rfl
              by_cases hL:16384<sr.size
              · have bO:(16384:Int)<(sr.size:Int):=by omega
                have J:Hid (Tm.check ⟨main,defs⟩=196):=by unfold Hid;rw[ax.out,if_pos (.inr (by omega))]
                clear aa ah aA aX hL
                go_wp2_with fail
                refine aO.out.mono ?_
                rintro e w9 ⟨rfl,an⟩
                have aU:Hid (Below w.heap.size w w9):=E.out.trans (an.mono E.out.size)
                clear an t0 R
                go_wp2_with fail
                go_ret
                exact⟨by rw[J.out];rfl,aU.out⟩
              · have bO:¬(16384:Int)<(sr.size:Int):=by omega
                have J:Hid (Tm.check ⟨main,defs⟩=0):=by unfold Hid;rw[ax.out,if_neg (by omega)]
                clear aa ah aA aX hL
                go_wp2_with fail
                refine aO.out.mono ?_
                rintro e w9 ⟨rfl,an⟩
                have aU:Hid (Below w.heap.size w w9):=E.out.trans (an.mono E.out.size)
                clear an t0 R
                go_wp2_with fail
                go_ret
                exact⟨by rw[J.out];rfl,aU.out⟩
end Go.Proofs.YtepcpgdfbaklfaaGreatDoor
