/- The contract of lacunaref16.deep. The condition: a value's sizes. -/
import Derived.Test.YtepcpgdfbaklfaaGreatDoorQcIc
import Derived.Test.YtepcpgdfbaklfaaGreatDoorQcF1
import Derived.Test.YtepcpgdfbaklfaaGreatDoorQcG3
import Derived.Test.YtepcpgdfbaklfaaGreatDoorQcI4
import Derived.Test.YtepcpgdfbaklfaaGreatDoorQcF8
set_option maxRecDepth 100000
set_option maxHeartbeats 40000000
set_option linter.unusedSimpArgs false
set_option linter.unusedVariables false
namespace Go.Proofs.YtepcpgdfbaklfaaGreatDoor
open Go.RowKit Go.Shelf Ev
attribute [local go_sem ↓] Go.wp_at_zero Go.wp_at_succ
theorem mT:∀t:Vl,gR t<=eX t
 | .nil=>AG _
 | .cons h k r=>by
   have o:=mT k
   have m:=mT r
   simp only[gR,eX]
   split <;> omega
def dpF (x:Va):Nat:=if x.h.kind=6\/x.h.kind=7 then gR x.items+1 else 0
theorem pF:∀(n:Nat) (x:Va),eX x.items<n->Va.sm x->∀(ok:Nat->Prop) (a1 a2:Option Addr) (c1 c2:Nat) (w:World),fu ok w x a1 c1 a2 c2->
 Calls Tryz.prog 61 #[.agg #[.int .u8 (x.h.kind:Nat),.bool x.h.b,.int .i64 x.h.n,.int .u64 (x.h.bits:Nat),.string x.h.text,.slice a1 x.h.keys.length c1,.slice a2 x.items.len c2]] w λe w'=>e=.returned (.int .i64 (dpF x:Nat))/\Below w.heap.size w w':=by
 intro n
 induction n with
 | zero=>intro x h;omega
 | succ n ih=>
 intro x hx hs ok a1 a2 c1 c2 w hv
 have ar:=AF ih
 have HB:Hid (Below w.heap.size w (w.alloc (.cells (d9 x.h (.slice a1 x.h.keys.length c1) (.slice a2 x.items.len c2)) 31))):=(AH _ w).alloc (AG _) _
 have HP:Hid ((w.alloc (.cells (d9 x.h (.slice a1 x.h.keys.length c1) (.slice a2 x.items.len c2)) 31)).heap[w.heap.size]? =some (.cells (d9 x.h (.slice a1 x.h.keys.length c1) (.slice a2 x.items.len c2)) 31 (0,0))):=heap_alloc_new w _
 have az:x.items.len<=16777216:=Nat.le_trans (eS _) hs.2.2
 have HS:Hid (smX x.items):=hs.2.1
 have aD:=hs.2.2
 have aC:=mT x.items
 have an:Hid (kr (λb=>ok b/\b<w.heap.size) a2 w x.items 0):=by
  obtain⟨_,_,hI,-,-,al⟩:=hv.lt.2
  cases hI
  intro ae
  obtain⟨b,o,q1,q2,q3⟩:=al ae
  exact⟨b,o,q1,q2,by rw[Nat.zero_mul,Nat.add_zero];exact q3⟩
 clear hs hv ih
 unfold d9 at HB HP
 by_cases E:x.h.kind=6\/x.h.kind=7
 · have HD:Hid (dpF x=gR x.items+1):=if_pos E
   rw[HD.out]
   obtain⟨K,hK⟩:∃K,x.h.kind=K:=⟨_,rfl⟩
   rw[hK]at E HB HP ⊢
   clear hK HD
   rcases E with rfl | rfl
   all_goals
    go_enter Tryz.func61,Tryz.ntmps61
    go_upto_region 1 with(fail)
    generalize ak:World.alloc w _=w1 at*
    clear ak
    obtain⟨x0,x1,x2,x3,x4,x5,x6⟩:=fR (h:=⟨_,x.h.b,x.h.n,x.h.bits,x.h.text,x.h.keys⟩) HP.out
    go_wp2_with fail
    go_loopw [3,4] (λv3 v4 wr=>∃(d k:Nat) (r:Vl),v3=.int .i64 (d:Nat)/\v4=.int .i64 (k:Nat)/\k+r.len=x.items.len/\d<=16777216/\eX r<=eX x.items/\Hid (max d (gR r)=gR x.items)/\Hid (smX r)/\Hid (Below w.heap.size w wr)/\Hid (wr.heap[w.heap.size]? =w1.heap[w.heap.size]?)/\Hid (kr (λb=>ok b/\b<w.heap.size) a2 w r k)) (λ_ i _=>x.items.len - (intOf i).toNat)
    case atStart=>exact⟨0,0,x.items,rfl,rfl,by omega,by omega,AG _,Nat.zero_max _,HS,HB,rfl,an⟩
    case round=>
     obtain⟨d,k,r,rfl,rfl,E,hd,aj,G,am,I,ab,ap⟩:=hrel
     have aa:=AF (ab.out.trans HP.out)
     clear x0 x1 x2 x3 x4 x5 x6
     obtain⟨x0,x1,x2,x3,x4,x5,x6⟩:=fR (h:=⟨_,x.h.b,x.h.n,x.h.bits,x.h.text,x.h.keys⟩) aa.out
     have aA:(0:Int)<=(k:Int):=by omega
     cases r with
     | nil=>
       simp only[Vl.len]at E
       have aB:¬(k:Int)<(x.items.len:Int):=by omega
       have hm:=G.out
       simp only[gR,Nat.max_zero]at hm
       subst hm
       clear G
       go_wp2_with fail
       go_ret
       exact⟨by go_num,I.out⟩
     | cons yh yi r=>
       simp only[Vl.len]at E
       have av:(k:Int)<(x.items.len:Int):=by omega
       obtain⟨b,o,rfl,hb,A⟩:=ap.out (by simp)
       have ao:Hid (kr (λb=>ok b/\b<w.heap.size) (some ⟨b,o,none⟩) w r (k+1)):=λ_=>⟨b,o,rfl,hb,by have:=A.2.2;rwa[show o+k*7+7=o+(k+1)*7 by omega]at this⟩
       obtain⟨M,J,U⟩:=am.out
       obtain⟨y,hy⟩:∃y:Va,y=⟨yh,yi⟩:=⟨_,rfl⟩
       obtain⟨rfl,rfl⟩:yh=y.h/\yi=y.items:=by rw[hy];exact⟨rfl,rfl⟩
       clear hy
       simp only[eX]at aj
       have R:Va.sm y:=⟨M,J,by omega⟩
       have Z:=AF U
       obtain⟨⟨g0,g1,g2,g3,g4,vk,g5,m⟩,⟨ag,cg,g6,Y,W,V⟩,-⟩:=fF.kept (λb hb=>I.out.block b hb.2) _ _ _ hb A
       obtain⟨ay,cy,rfl⟩:=m.cases
       have PC:=AF (ar.out y (by omega) R _ ay ag cy cg wr ⟨m,⟨ag,cg,rfl,Y,W,V⟩⟩)
       have ai:dpF y<=16777216:=by
        have:=mT y.items
        unfold dpF
        split <;> omega
       have N:Hid (max (max d (dpF y)) (gR r)=gR x.items):=by
        unfold Hid
        rw[<-G.out,Nat.max_assoc]
        rfl
       have ac:=AF E
       obtain⟨D,hD⟩:∃D,dpF y=D:=⟨_,rfl⟩
       rw[hD]at ai N PC
       have ad:=I.out.size
       have ah:=dX aa.out
       clear M J U m Y W V A R E hD G
       go_wp2_with fail
       refine PC.out.mono ?_
       rintro e w5 ⟨rfl,O⟩
       have au:Hid (Below w.heap.size w w5):=I.out.trans (O.mono ad)
       have aq:Hid (w5.heap[w.heap.size]? =w1.heap[w.heap.size]?):=(O.block _ ah).trans ab.out
       clear O PC x0 x1 x2 x3 x4 x5 x6 g0 g1 g2 g3 g4 g5 g6
       go_wp2_with fail
       have af:(max (d:Int) (D:Int))=((max d D:Nat):Int):=by first | omega | (rw[Int.natCast_max])
       exact⟨⟨max d D,k+1,r,by rw[af],by go_num,by have:=ac.out;omega,by omega,by omega,N,Z,au,aq,ao⟩,by simp[intOf];have:=ac.out;omega⟩
 · have HD:Hid (dpF x=0):=if_neg E
   rw[HD.out]
   have n6:((x.h.kind:Int)==6)=false:=beq_eq_false_iff_ne.2 (by omega)
   have n7:((x.h.kind:Int)==7)=false:=beq_eq_false_iff_ne.2 (by omega)
   have ax:((x.h.kind:Int)!=6)=true:=by simp[bne,n6]
   have aw:((x.h.kind:Int)!=7)=true:=by simp[bne,n7]
   clear E HD
   go_enter Tryz.func61,Tryz.ntmps61
   go_wp2_with fail
   go_ret
   exact⟨rfl,HB.out⟩
def fmF (x:Va):Bool:=eW x.h x.items.len&&gE x.items
def pQ:Prop:=∀(x:Va),Va.sm x->∀(ok:Nat->Prop) (a1 a2:Option Addr) (c1 c2:Nat) (w:World),fu ok w x a1 c1 a2 c2->
    Calls Tryz.prog 97 #[.agg #[.int .u8 (x.h.kind:Nat),.bool x.h.b,.int .i64 x.h.n,.int .u64 (x.h.bits:Nat),.string x.h.text,.slice a1 x.h.keys.length c1,.slice a2 x.items.len c2]] w λe w'=>e=.returned (.bool (eW x.h x.items.len))/\Below w.heap.size w w'
theorem mO (hf:pQ):∀(n:Nat) (x:Va),eX x.items<n->Va.sm x->∀(ok:Nat->Prop) (a1 a2:Option Addr) (c1 c2:Nat) (w:World),fu ok w x a1 c1 a2 c2->
 Calls Tryz.prog 60 #[.agg #[.int .u8 (x.h.kind:Nat),.bool x.h.b,.int .i64 x.h.n,.int .u64 (x.h.bits:Nat),.string x.h.text,.slice a1 x.h.keys.length c1,.slice a2 x.items.len c2]] w λe w'=>e=.returned (.bool (fmF x))/\Below w.heap.size w w':=by
 intro n
 induction n with
 | zero=>intro x h;omega
 | succ n ih=>
 intro x hx Y ok a1 a2 c1 c2 w hv
 have az:=AF ih
 have HB:Hid (Below w.heap.size w (w.alloc (.cells (d9 x.h (.slice a1 x.h.keys.length c1) (.slice a2 x.items.len c2)) 31))):=(AH _ w).alloc (AG _) _
 have HP:Hid ((w.alloc (.cells (d9 x.h (.slice a1 x.h.keys.length c1) (.slice a2 x.items.len c2)) 31)).heap[w.heap.size]? =some (.cells (d9 x.h (.slice a1 x.h.keys.length c1) (.slice a2 x.items.len c2)) 31 (0,0))):=heap_alloc_new w _
 have aD:x.items.len<=16777216:=Nat.le_trans (eS _) Y.2.2
 have HS:Hid (smX x.items):=Y.2.1
 have ai:Hid (∀W,Below w.heap.size w W->Calls Tryz.prog 97 #[.agg #[.int .u8 (x.h.kind:Nat),.bool x.h.b,.int .i64 x.h.n,.int .u64 (x.h.bits:Nat),.string x.h.text,.slice a1 x.h.keys.length c1,.slice a2 x.items.len c2]] W λe w'=>e=.returned (.bool (eW x.h x.items.len))/\Below W.heap.size W w'):=λW hW=>hf x Y _ a1 a2 c1 c2 W (hv.lt.kept λb O=>hW.block b O.2)
 have aG:=Y.2.2
 have ar:Hid (kr (λb=>ok b/\b<w.heap.size) a2 w x.items 0):=by
  obtain⟨_,_,hI,-,-,ap⟩:=hv.lt.2
  cases hI
  intro al
  obtain⟨b,o,q1,q2,q3⟩:=ap al
  exact⟨b,o,q1,q2,by rw[Nat.zero_mul,Nat.add_zero];exact q3⟩
 clear Y hv ih hf
 unfold d9 at HB HP
 go_enter Tryz.func60,Tryz.ntmps60
 go_upto_region 1 with(fail)
 generalize ao:World.alloc w _=w1 at*
 clear ao
 obtain⟨x0,x1,x2,x3,x4,x5,x6⟩:=fR (h:=x.h) HP.out
 have FC:=AF (ai.out w1 HB.out)
 have aj:=dX HP.out
 go_wp2_with fail
 refine FC.out.mono ?_
 rintro e w2 ⟨rfl,M⟩
 have aB:Hid (Below w.heap.size w w2):=HB.out.trans (M.mono HB.out.size)
 have ax:=AF ((M.block _ aj).trans HP.out)
 clear M FC ai x0 x1 x2 x3 x4 x5 x6
 obtain⟨R,N⟩:∃R,eW x.h x.items.len=R:=⟨_,rfl⟩
 have HF:Hid (fmF x=(R&&gE x.items)):=by unfold Hid fmF;rw[N]
 rw[N]
 clear N HB HP
 go_wp2_with fail
 go_loopw [3,4] (λv3 v4 wr=>∃(d:Bool) (k:Nat) (r:Vl),v3=.bool d/\v4=.int .i64 (k:Nat)/\k+r.len=x.items.len/\eX r<=eX x.items/\Hid ((d&&gE r)=(R&&gE x.items))/\Hid (smX r)/\Hid (Below w.heap.size w wr)/\Hid (wr.heap[w.heap.size]? =w2.heap[w.heap.size]?)/\Hid (kr (λb=>ok b/\b<w.heap.size) a2 w r k)) (λ_ i _=>x.items.len - (intOf i).toNat)
 case atStart=>exact⟨R,0,x.items,rfl,rfl,by omega,AG _,rfl,HS,aB,rfl,ar⟩
 case round=>
  obtain⟨d,k,r,rfl,rfl,hk,an,G,aq,E,ae,av⟩:=hrel
  have ad:=AF (ae.out.trans ax.out)
  obtain⟨x0,x1,x2,x3,x4,x5,x6⟩:=fR (h:=x.h) ad.out
  have aE:(0:Int)<=(k:Int):=by omega
  cases r with
  | nil=>
    simp only[Vl.len]at hk
    have aF:¬(k:Int)<(x.items.len:Int):=by omega
    go_wp2_with fail
    go_ret
    exact⟨by rw[HF.out,←G.out];simp[gE],E.out⟩
  | cons yh yi r=>
    simp only[Vl.len]at hk
    have aC:(k:Int)<(x.items.len:Int):=by omega
    cases d with
    | false=>
      go_wp2_with fail
      go_ret
      exact⟨by rw[HF.out,←G.out];simp,E.out⟩
    | true=>
    obtain⟨b,o,rfl,O,A⟩:=av.out (by simp)
    have au:Hid (kr (λb=>ok b/\b<w.heap.size) (some ⟨b,o,none⟩) w r (k+1)):=λ_=>⟨b,o,rfl,O,by have:=A.2.2;rwa[show o+k*7+7=o+(k+1)*7 by omega]at this⟩
    obtain⟨J,I,V⟩:=aq.out
    obtain⟨y,hy⟩:∃y:Va,y=⟨yh,yi⟩:=⟨_,rfl⟩
    obtain⟨rfl,rfl⟩:yh=y.h/\yi=y.items:=by rw[hy];exact⟨rfl,rfl⟩
    clear hy
    simp only[eX]at an
    have U:Va.sm y:=⟨J,I,by omega⟩
    have ac:=AF V
    obtain⟨⟨g0,g1,g2,g3,g4,vk,g5,m⟩,⟨ag,cg,g6,ab,aa,Z⟩,-⟩:=fF.kept (λb O=>E.out.block b O.2) _ _ _ O A
    obtain⟨ay,cy,rfl⟩:=m.cases
    have PC:=AF (az.out y (by omega) U _ ay ag cy cg wr ⟨m,⟨ag,cg,rfl,ab,aa,Z⟩⟩)
    have af:Hid ((fmF y&&gE r)=(R&&gE x.items)):=by
     unfold Hid
     rw[<-G.out]
     simp[gE,fmF]
    have ah:=AF hk
    have ak:=E.out.size
    have am:=dX ad.out
    clear J I V m ab aa Z A U hk G
    go_wp2_with fail
    refine PC.out.mono ?_
    rintro e w5 ⟨rfl,K⟩
    have aA:Hid (Below w.heap.size w w5):=E.out.trans (K.mono ak)
    have aw:Hid (w5.heap[w.heap.size]? =w2.heap[w.heap.size]?):=(K.block _ am).trans ae.out
    clear K PC x0 x1 x2 x3 x4 x5 x6 g0 g1 g2 g3 g4 g5 g6
    go_wp2_with fail
    exact⟨⟨fmF y,k+1,r,rfl,by go_num,by have:=ah.out;omega,by omega,af,ac,aA,aw,au⟩,by simp[intOf];have:=ah.out;omega⟩
theorem xK (x:Va):jg x=if fmF x then(if dpF x>64 then 161 else 0)else 160:=by
 unfold jg fmF dpF
 simp only[gE,gR,Bool.and_true,Nat.max_zero]
theorem ow (hf:pQ)(x:Va)(hs:Va.sm x)(ok:Nat->Prop)(a1 a2:Option Addr)(c1 c2:Nat)(w:World)(hv:fu ok w x a1 c1 a2 c2):
 Calls Tryz.prog 35 #[.agg #[.int .u8 (x.h.kind:Nat),.bool x.h.b,.int .i64 x.h.n,.int .u64 (x.h.bits:Nat),.string x.h.text,.slice a1 x.h.keys.length c1,.slice a2 x.items.len c2]] w λe w'=>e=.returned (.int .i64 (jg x:Nat))/\Below w.heap.size w w':=by
 have N:Hid (Below w.heap.size w (w.alloc (.cells (d9 x.h (.slice a1 x.h.keys.length c1) (.slice a2 x.items.len c2)) 31))):=(AH _ w).alloc (AG _) _
 have M:Hid ((w.alloc (.cells (d9 x.h (.slice a1 x.h.keys.length c1) (.slice a2 x.items.len c2)) 31)).heap[w.heap.size]? =some (.cells (d9 x.h (.slice a1 x.h.keys.length c1) (.slice a2 x.items.len c2)) 31 (0,0))):=heap_alloc_new w _
 have I:Hid (∀W,Below w.heap.size w W->Calls Tryz.prog 60 #[.agg #[.int .u8 (x.h.kind:Nat),.bool x.h.b,.int .i64 x.h.n,.int .u64 (x.h.bits:Nat),.string x.h.text,.slice a1 x.h.keys.length c1,.slice a2 x.items.len c2]] W λe w'=>e=.returned (.bool (fmF x))/\Below W.heap.size W w'):=λW hW=>mO hf _ x (Nat.lt_succ_self _) hs _ a1 a2 c1 c2 W (hv.lt.kept λb hb=>hW.block b hb.2)
 have J:Hid (∀W,Below w.heap.size w W->Calls Tryz.prog 61 #[.agg #[.int .u8 (x.h.kind:Nat),.bool x.h.b,.int .i64 x.h.n,.int .u64 (x.h.bits:Nat),.string x.h.text,.slice a1 x.h.keys.length c1,.slice a2 x.items.len c2]] W λe w'=>e=.returned (.int .i64 (dpF x:Nat))/\Below W.heap.size W w'):=λW hW=>pF _ x (Nat.lt_succ_self _) hs _ a1 a2 c1 c2 W (hv.lt.kept λb hb=>hW.block b hb.2)
 have m:=AF (xK x)
 clear hs hv hf
 unfold d9 at N M
 go_enter Tryz.func35,Tryz.ntmps35
 go_upto_region 1 with(fail)
 generalize ab:World.alloc w _=w1 at*
 clear ab
 obtain⟨x0,Z,Y,V,U,R,O⟩:=fR (h:=x.h) M.out
 have FC:=AF (I.out w1 N.out)
 have aa:=dX M.out
 go_wp2_with fail
 refine FC.out.mono ?_
 rintro e w2 ⟨rfl,E⟩
 have A:Hid (Below w.heap.size w w2):=N.out.trans (E.mono N.out.size)
 have ac:=AF ((E.block _ aa).trans M.out)
 clear E FC I x0 Z Y V U R O
 cases o:fmF x with
 | false=>
   rw[o]at m
   clear o
   go_wp2_with fail
   go_ret
   exact⟨by rw[m.out];rfl,A.out⟩
 | true=>
   rw[o]at m
   clear o
   obtain⟨x0,Z,Y,V,U,R,O⟩:=fR (h:=x.h) ac.out
   have DC:=AF (J.out w2 A.out)
   clear J
   obtain⟨D,hD⟩:∃D,dpF x=D:=⟨_,rfl⟩
   rw[hD]at DC m
   clear hD
   go_wp2_with fail
   refine DC.out.mono ?_
   rintro e w3 ⟨rfl,G⟩
   have K:Hid (Below w.heap.size w w3):=A.out.trans (G.mono A.out.size)
   clear G DC x0 Z Y V U R O
   by_cases r:D>64
   · have hd:(64:Int)<(D:Int):=by omega
     have hd2:decide ((64:Int)<(D:Int))=true:=decide_eq_true hd
     have HR:Hid (jg x=161):=by unfold Hid;rw[m.out];simp[r]
     clear r
     go_wp2_with fail
     go_ret
     exact⟨by rw[HR.out];rfl,K.out⟩
   · have hd:¬(64:Int)<(D:Int):=by omega
     have hd2:decide ((64:Int)<(D:Int))=false:=decide_eq_false hd
     have HR:Hid (jg x=0):=by unfold Hid;rw[m.out];simp[r]
     clear r
     go_wp2_with fail
     go_ret
     exact⟨by rw[HR.out];rfl,K.out⟩
theorem ni (l:List Pc)(hp:∀p∈l,Pc.ok p)(hl:l.length<=1000000)(ok:Nat->Prop)(v:Value)(w:World)(h:Pcs ok w v l):
 Calls Tryz.prog 20 #[v] w (Ak l w):=by
 obtain⟨a,c,rfl,-,-,h3⟩:=Pcs.rest h
 have HX:=AF h3
 have HP:=AF hp
 clear h3 h hp
 go_enter Tryz.func20,Tryz.ntmps20
 go_wp2_with fail
 go_loopw [3,4] (λv3 v9 wr=>∃(k:Nat) (ao:Option Addr) (V Z:Nat) (d r:List Pc),v3=.slice ao V Z/\v9=.int .i64 (k:Nat)/\k+r.length=l.length/\d.length=k/\Hid (d++r=l)/\Hid (oR w.heap.size wr v3 (d.map lE))/\Hid (Below w.heap.size w wr)/\Hid (jF ok a w r k)) (λ_ i _=>l.length - (intOf i).toNat)
 case atStart=>exact⟨0,none,0,0,[],l,rfl,rfl,by omega,rfl,rfl,oR.nil _ _,AH _ _,HX⟩
 case round=>
  obtain⟨k,ao,V,Z,d,r,rfl,rfl,W,ai,HD,HO,U,ab⟩:=hrel
  cases r with
  | nil=>
    simp only[List.length_nil]at W
    have ah:¬(k:Int)<(l.length:Int):=by omega
    go_wp2_with fail
    go_ret
    have he:=HD.out
    rw[List.append_nil]at he
    exact⟨_,rfl,by rw[<-he];exact HO.out.ints,U.out⟩
  | cons p r=>
    simp only[List.length_cons]at W
    have ac:(k:Int)<(l.length:Int):=by omega
    have ag:(0:Int)<=(k:Int):=by omega
    have aa:=HP.out p (by rw[<-HD.out];simp)
    obtain⟨-,af,ae⟩:=aa
    obtain⟨b,o,rfl,Y,A⟩:=ab.out (by simp)
    have O:Hid (jF ok (some ⟨b,o,none⟩) w r (k+1)):=λ_=>⟨b,o,rfl,Y,by have:=A.2.2;rwa[show o+k*10+10=o+(k+1)*10 by omega]at this⟩
    obtain⟨⟨g0,g1,g2⟩,-,-⟩:=hH.kept (λb Y=>U.out.block b Y.2) _ _ _ Y A
    have I:=AF W
    have R:Hid ((d++[p])++r=l):=by unfold Hid;rw[List.append_assoc];exact HD.out
    have ad:=U.out.size
    have J:(d.map lE).length<=16777216:=by rw[List.length_map];omega
    clear A W
    cases N:p.hole with
    | false=>
      rw[N]at g1
      have HE:Hid (lE p=p.pos):=by unfold Hid lE;rw[N];rfl
      have G:Hid (Below wr.heap.size wr (wr.alloc (.cells #[.int .i64 p.pos] 3))):=(AH _ wr).alloc (AG _) _
      clear N
      go_wp2_with (at_builtin;refine mX rfl _ _ rfl w.heap.size (.slice ao V Z) (d.map lE) rfl (HO.out.below G.out) p.pos wr.heap.size 1 rfl 3 (0,0) (heap_alloc_new wr _) J (by simp;omega) ?_;intro v6 w4 m E;obtain⟨a6,n6,c6,rfl⟩:=gB m;have K:=AF m;have M:Hid (Below w.heap.size w w4):=(U.out.trans (G.out.mono (by omega))).trans E;clear m E)
      exact⟨⟨k+1,_,_,_,d++[p],r,rfl,by go_num,by have:=I.out;omega,by simp;omega,R,by unfold Hid;rw[List.map_append,List.map_cons,List.map_nil,HE.out];exact K.out,M,O⟩,by simp[intOf];have:=I.out;omega⟩
    | true=>
      rw[N]at g1
      have HE:Hid (lE p= -1 - p.pos):=by unfold Hid lE;rw[N];rfl
      have G:Hid (Below wr.heap.size wr (wr.alloc (.cells #[.int .i64 (-1 - p.pos)] 3))):=(AH _ wr).alloc (AG _) _
      clear N
      go_wp2_with (at_builtin;refine mX rfl _ _ rfl w.heap.size (.slice ao V Z) (d.map lE) rfl (HO.out.below G.out) (-1 - p.pos) wr.heap.size 1 rfl 3 (0,0) (heap_alloc_new wr _) J (by simp;omega) ?_;intro v6 w4 m E;obtain⟨a6,n6,c6,rfl⟩:=gB m;have K:=AF m;have M:Hid (Below w.heap.size w w4):=(U.out.trans (G.out.mono (by omega))).trans E;clear m E)
      exact⟨⟨k+1,_,_,_,d++[p],r,rfl,by go_num,by have:=I.out;omega,by simp;omega,R,by unfold Hid;rw[List.map_append,List.map_cons,List.map_nil,HE.out];exact K.out,M,O⟩,by simp[intOf];have:=I.out;omega⟩
theorem isE (t:ByteArray):t.toList.isEmpty=decide (t=ByteArray.empty):=by
 by_cases h:t=ByteArray.empty
 · subst h;simp[ByteArray.toList_eq]
 · rw[decide_eq_false h]
   cases m:t.toList with
   | nil=>exact absurd (ByteArray.ext (Array.ext' (by rw[<-ByteArray.toList_eq,m];rfl))) h
   | cons a l=>rfl
def vU (kind:Nat) (b:Bool) (n:Int) (bits:Nat) (text:ByteArray) (keys:List ByteArray) (m:Vl):Prop:=∀(a1 a2:Option Addr) (c1 c2:Nat) (w:World),
    Calls Tryz.prog 97 #[.agg #[.int .u8 (kind:Nat),.bool b,.int .i64 n,.int .u64 (bits:Nat),.string text,.slice a1 keys.length c1,.slice a2 m.len c2]] w λe w'=>e=.returned (.bool (eW ⟨kind,b,n,bits,text,keys⟩ m.len))/\Below w.heap.size w w'
theorem td (kind:Nat)(G:1<=kind)(E:kind<=6)(b:Bool)(n:Int)(bits:Nat)(text:ByteArray)(keys:List ByteArray)(m:Vl):vU kind b n bits text keys m:=by
 intro a1 a2 c1 c2 w
 have K:kind=1\/kind=2\/kind=3\/kind=4\/kind=5\/kind=6:=by omega
 have o:=AF (lU kind b n bits text keys m.len G E)
 obtain⟨R,A⟩:∃R,eW ⟨kind,b,n,bits,text,keys⟩ m.len=R:=⟨_,rfl⟩
 rw[A]at o ⊢
 clear A
 have J:Hid (Below w.heap.size w (w.alloc (.cells #[.int .u8 (kind:Nat),.bool b,.int .i64 n,.int .u64 (bits:Nat),.string text,.slice a1 keys.length c1,.slice a2 m.len c2] 31))):=(AH _ w).alloc (AG _) _
 have I:Hid ((w.alloc (.cells #[.int .u8 (kind:Nat),.bool b,.int .i64 n,.int .u64 (bits:Nat),.string text,.slice a1 keys.length c1,.slice a2 m.len c2] 31)).heap[w.heap.size]? =some (.cells #[.int .u8 (kind:Nat),.bool b,.int .i64 n,.int .u64 (bits:Nat),.string text,.slice a1 keys.length c1,.slice a2 m.len c2] 31 (0,0))):=heap_alloc_new w _
 clear G E
 rcases K with rfl | rfl | rfl | rfl | rfl | rfl
 all_goals
  simp only[Nat.reduceEqDiff,if_true,if_false,reduceIte]at o
  go_enter Tryz.func97,Tryz.ntmps97
  go_upto_region 1 with(fail)
  generalize r:World.alloc w _=w1 at*
  clear r
  obtain⟨Z,Y,W,V,U,O,N⟩:=fR (h:=⟨_,b,n,bits,text,keys⟩) I.out
  have et:=isE text
  have M:=dY I.out
  go_wp2_with fail
  all_goals
   go_ret
   refine⟨?_,by first | exact J.out | exact J.out.setCell (p:=⟨w.heap.size,_,none⟩) (AG _) _⟩
   rw[o.out]
   first | (simp[*,z4];done) | (simp[*,z4];rfl)
theorem rV {keys:List ByteArray}{k:Nat}{t:ByteArray}(h:keys[k]? =some t):(keys.take (k+1)).map bl=(keys.take k).map bl++[bl t]:=by
 obtain⟨m,o⟩:=List.getElem?_eq_some_iff.1 h
 rw[List.take_succ_eq_append_getElem m,List.map_append,o]
 rfl
theorem zc (l:List By)(t s:ByteArray):(l++[bl t]).contains (bl s)=(l.contains (bl s)||(t.toList==s.toList)):=by
 rw[List.contains_append,Bool.eq_iff_iff]
 simp only[Bool.or_eq_true,List.contains_iff_mem,List.mem_singleton,beq_iff_eq,ByteArray.toList_eq,bl]
 exact⟨λh=>h.imp id λe=>e.symm,λh=>h.imp id λe=>e.symm⟩
theorem xu (b:Bool)(n:Int)(bits:Nat)(text:ByteArray)(keys:List ByteArray)(m:Vl)(hl:keys.length<=16777216)(ok:Nat->Prop)(a1 a2:Option Addr)(c1 c2:Nat)(w:World)(h:Strs ok w (.slice a1 keys.length c1) keys):
 Calls Tryz.prog 97 #[.agg #[.int .u8 (7:Nat),.bool b,.int .i64 n,.int .u64 (bits:Nat),.string text,.slice a1 keys.length c1,.slice a2 m.len c2]] w λe w'=>e=.returned (.bool (eW ⟨7,b,n,bits,text,keys⟩ m.len))/\Below w.heap.size w w':=by
 obtain⟨_,_,he,-,-,h3⟩:=h.lt
 cases he
 have H3:=AF h3
 clear h3 h
 have J:=AF (qc b n bits text keys m.len)
 obtain⟨R,hR⟩:∃R,eW ⟨7,b,n,bits,text,keys⟩ m.len=R:=⟨_,rfl⟩
 rw[hR]at J ⊢
 clear hR
 go_enter Tryz.func97,Tryz.ntmps97
 go_upto_region 1 with(fail)
 generalize M:World.alloc w _=w1
 have HB:Hid (Below w.heap.size w w1):=by rw[<-M];exact(AH _ w).alloc (AG _) _
 have hp:=heap_alloc_new w (.cells #[.int .u8 (7:Nat),.bool b,.int .i64 n,.int .u64 (bits:Nat),.string text,.slice a1 keys.length c1,.slice a2 m.len c2] 31)
 have HP:Hid (w1.heap[w.heap.size]? =some (.cells #[.int .u8 (7:Nat),.bool b,.int .i64 n,.int .u64 (bits:Nat),.string text,.slice a1 keys.length c1,.slice a2 m.len c2] 31 (0,0))):=by rw[<-M];exact hp
 clear M hp
 obtain⟨x0,x1,x2,x3,x4,x5,x6⟩:=fR (h:=⟨_,b,n,bits,text,keys⟩) HP.out
 go_wp2_with fail
 go_loopw [4,5] (λv4 v5 wr=>∃i:Nat,v4=.bool (!twice ((keys.take i).map bl))/\v5=.int .i64 (i:Nat)/\i<=keys.length/\Hid (Below w.heap.size w wr)/\Hid (wr.heap[w.heap.size]? =w1.heap[w.heap.size]?)) (λ_ i _=>keys.length - (intOf i).toNat)
 case atStart=>exact⟨0,rfl,rfl,Nat.zero_le _,HB,rfl⟩
 case round=>
  obtain⟨i,rfl,rfl,hi,U,aa⟩:=hrel
  have Z:=AF (aa.out.trans HP.out)
  clear x0 x1 x2 x3 x4 x5 x6
  obtain⟨x0,x1,x2,x3,x4,x5,x6⟩:=fR (h:=⟨_,b,n,bits,text,keys⟩) Z.out
  have ak:(0:Int)<=(i:Int):=by omega
  by_cases I:i<keys.length
  · have af:(i:Int)<(keys.length:Int):=by omega
    obtain⟨s,hs⟩:∃s,keys[i]? =some s:=⟨_,List.getElem?_eq_getElem I⟩
    obtain⟨b',o,rfl,⟨-,hb⟩,hc⟩:=H3.out (by intro e;rw[e]at I;simp at I)
    obtain⟨A,r⟩:∃A,(!twice ((keys.take i).map bl))=A:=⟨_,rfl⟩
    have HC:=AF hc
    have HS:=AF hs
    have ad:Hid ((!twice ((keys.take (i+1)).map bl))=(A&& !((keys.take i).map bl).contains (bl s))):=by
     unfold Hid
     rw[rV hs,fj,←r,Bool.not_or]
    rw[r]
    clear hc hs r
    go_wp2_with fail
    go_loopw [4,6] (λv4 v6 wq=>∃k:Nat,v4=.bool (A&& !((keys.take k).map bl).contains (bl s))/\v6=.int .i64 (k:Nat)/\k<=i/\Hid (Below w.heap.size w wq)/\Hid (wq.heap[w.heap.size]? =w1.heap[w.heap.size]?)) (λ_ k _=>i - (intOf k).toNat)
    case atStart=>exact⟨0,by simp,rfl,Nat.zero_le _,U,aa⟩
    case round=>
     obtain⟨k,rfl,rfl,hk,K,N⟩:=hrel
     have ae:=AF (N.out.trans HP.out)
     clear x0 x1 x2 x3 x4 x5 x6
     obtain⟨x0,x1,x2,x3,x4,x5,x6⟩:=fR (h:=⟨_,b,n,bits,text,keys⟩) ae.out
     have aj:(0:Int)<=(k:Int):=by omega
     by_cases ah:k<i
     · have ag:(k:Int)<(i:Int):=by omega
       have ai:(k:Int)<(keys.length:Int):=by omega
       obtain⟨t,ht⟩:∃t,keys[k]? =some t:=⟨_,List.getElem?_eq_getElem (by omega)⟩
       have c1:wr.cell? ⟨b',o+k,none⟩=some (.string t):=(K.out.cell (p:=⟨b',_,none⟩) hb).trans (HC.out k t ht)
       have c2:wr.cell? ⟨b',o+i,none⟩=some (.string s):=(K.out.cell (p:=⟨b',_,none⟩) hb).trans (HC.out i s HS.out)
       obtain⟨T,hT⟩:∃T,(A&& !((keys.take k).map bl).contains (bl s))=T:=⟨_,rfl⟩
       have E:Hid ((A&& !((keys.take (k+1)).map bl).contains (bl s))=(T&& !(t.toList==s.toList))):=by
        unfold Hid
        rw[rV ht,zc,←hT,Bool.not_or,Bool.and_assoc]
       have V:Hid (∀nq,Below w.heap.size w (wr.drewN nq)):=λnq=>ei K.out nq
       have O:Hid (∀nq,(wr.drewN nq).heap[w.heap.size]? =w1.heap[w.heap.size]?):=λnq=>N.out
       rw[hT]
       clear hT ht
       cases T with
       | false=>
         go_wp2_with fail
         go_quiet (fail)
         go_wp2_with fail
         go_roundw
         case rel=>exact⟨k+1,by rw[E.out];rfl,by go_num,by omega,V.out _,O.out _⟩
         case measure=>simp[intOf];omega
       | true=>
         cases G:(t.toList==s.toList)with
         | true=>
           have ab:(t.toList !=s.toList)=false:=by rw[bne,G];rfl
           rw[G]at E
           go_wp2_with fail
           go_quiet (fail)
           go_wp2_with fail
           go_roundw
           case rel=>exact⟨k+1,by rw[E.out];rfl,by go_num,by omega,V.out _,O.out _⟩
           case measure=>simp[intOf];omega
         | false=>
           have ab:(t.toList !=s.toList)=true:=by rw[bne,G];rfl
           rw[G]at E
           go_wp2_with fail
           go_quiet (fail)
           go_wp2_with fail
           go_roundw
           case rel=>exact⟨k+1,by rw[E.out];rfl,by go_num,by omega,V.out _,O.out _⟩
           case measure=>simp[intOf];omega
     · have ac:¬(k:Int)<(i:Int):=by omega
       obtain rfl:k=i:=by omega
       rw[<-ad.out]
       go_wp2_with fail
       exact⟨⟨k+1,rfl,by go_num,by omega,K,N⟩,by simp[intOf];omega⟩
  · have ac:¬(i:Int)<(keys.length:Int):=by omega
    obtain⟨A,r⟩:∃A,twice ((keys.take i).map bl)=A:=⟨_,rfl⟩
    have Y:Hid (twice (keys.map bl)=A):=by unfold Hid;rw[<-r,List.take_of_length_le (by omega)]
    rw[Y.out]at J
    rw[r]
    clear r I Y
    have et:=isE text
    have yf:=dY Z.out
    by_cases W:keys.length=m.len
    · have e1:((keys.length:Int)==(m.len:Int))=true:=by simp[W]
      cases A
      all_goals
       go_wp2_with fail
       all_goals
        go_ret
        refine⟨?_,U.out⟩
        rw[J.out]
        first | (simp[*,z4];done) | (simp[*,z4];rfl)
    · have e1:((keys.length:Int)==(m.len:Int))=false:=beq_eq_false_iff_ne.2 (by omega)
      go_wp2_with fail
      all_goals
       go_ret
       refine⟨?_,U.out⟩
       rw[J.out]
       simp[Ne.symm W]
theorem tc (kind:Nat)(A:kind=0\/7<kind)(b:Bool)(n:Int)(bits:Nat)(text:ByteArray)(keys:List ByteArray)(m:Vl):vU kind b n bits text keys m:=by
 intro a1 a2 c1 c2 w
 rw[lT kind b n bits text keys m.len A]
 have e1:((kind:Int)==1)=false:=beq_eq_false_iff_ne.2 (by omega)
 have Z:((kind:Int)==2)=false:=beq_eq_false_iff_ne.2 (by omega)
 have Y:((kind:Int)==3)=false:=beq_eq_false_iff_ne.2 (by omega)
 have W:((kind:Int)==4)=false:=beq_eq_false_iff_ne.2 (by omega)
 have V:((kind:Int)==5)=false:=beq_eq_false_iff_ne.2 (by omega)
 have U:((kind:Int)==6)=false:=beq_eq_false_iff_ne.2 (by omega)
 have R:((kind:Int)==7)=false:=beq_eq_false_iff_ne.2 (by omega)
 clear A
 go_enter Tryz.func97,Tryz.ntmps97
 go_upto_region 1 with(fail)
 generalize o:World.alloc w _=w1
 have E:Hid (Below w.heap.size w w1):=by rw[<-o];exact(AH _ w).alloc (AG _) _
 have r:=heap_alloc_new w (.cells #[.int .u8 (kind:Nat),.bool b,.int .i64 n,.int .u64 (bits:Nat),.string text,.slice a1 keys.length c1,.slice a2 m.len c2] 31)
 rw[o]at r
 clear o
 obtain⟨O,N,M,K,J,I,G⟩:=fR (h:=⟨_,b,n,bits,text,keys⟩) r
 clear r
 go_wp2_with fail
 go_ret
 exact⟨rfl,E.out⟩
theorem ru:pQ:=by
 intro x r ok a1 a2 c1 c2 w o
 obtain⟨⟨kind,b,n,bits,text,keys⟩,m⟩:=x
 by_cases h:kind=0\/7<kind
 · exact tc kind h b n bits text keys m a1 a2 c1 c2 w
 · by_cases A:kind=7
   · subst A
     exact xu b n bits text keys m r.1.2.2.2.2.2.1 ok a1 a2 c1 c2 w o.1
   · exact td kind (by omega) (by omega) b n bits text keys m a1 a2 c1 c2 w
end Go.Proofs.YtepcpgdfbaklfaaGreatDoor
