/- A template that memory has room for. No condition. -/
import Derived.Test.YtepcpgdfbaklfaaGreatDoorQcLibv
import Derived.Test.YtepcpgdfbaklfaaGreatDoorQcE0
import Derived.Deep.Slices
import Derived.Lib.SmallJoins
import Derived.ProofKit
import Derived.HandedShaped
import Derived.Test.YtepcpgdfbaklfaaGreatDoorQcF1
import Derived.Test.YtepcpgdfbaklfaaGreatDoorQcF0
import Derived.Test.YtepcpgdfbaklfaaGreatDoorRows
import Derived.Test.YtepcpgdfbaklfaaGreatDoorQcTp0
import Derived.WalkKit
import Derived.OpenShut
import Derived.ShutString
import Derived.ChangeOld
import Derived.Below
import Derived.LaidLaws
import GoSem.PinnedTables
import Derived.KernelRfl
import Derived.Lay
import Derived.Lib.LaidU8T
import Derived.ChangeSlices
import Derived.Carry
set_option maxRecDepth 100000
namespace Go.Proofs.YtepcpgdfbaklfaaGreatDoor
structure TmW (t:Tm):Prop where
 main:t.main.wf/\t.main.len<=140737488351232
 len:t.defs.length<=140737488351232
 defs:∀d∈t.defs,d.name.size<=140737488351232/\d.kids.wf/\d.kids.len<=140737488351232
set_option linter.unusedSimpArgs false
set_option linter.unusedVariables false
open Go.RowKit Go.Shelf Go.ChangeShapes Go.WideShapes Go.Joins
structure Aw (t:Tm)(vm vd:Value)(w:World):Prop where
 wide:TmW t
 main:d8 (·<w.heap.size) w vm t.main
 defs:fU (·<w.heap.size) w vd t.defs
def Rc {H:Type}(T:TypeId)(d:DataW H):Prop:=(d.weights Tryz.prog T).all (·<=reachBytes)=true
theorem ik {H:Type}{T:TypeId}{l:List UInt8}(h:Rc (H:=H) T (.lit (.string l))):l.length<=140737488351232:=by
 unfold Rc at h
 rw[DataW.weights]at h
 have m:=List.all_eq_true.1 h l.length (by simp)
 exact of_decide_eq_true m
theorem us {H:Type}{e:TypeId}:∀(o:List (DataW H)),(DataW.weightsAll Tryz.prog e o).all (·<=reachBytes)=true->∀d∈o,Rc e d:=by
 intro o
 induction o with
 | nil=>intro _ d m;cases m
 | cons x o r=>
   intro h d m
   rw[DataW.weightsAll,List.all_append,Bool.and_eq_true]at h
   rcases List.mem_cons.1 m with rfl | m
   · exact h.1
   · exact r h.2 d m
theorem kI {H:Type}:∀(o:List TypeId) (m:List (DataW H)),(DataW.weightsEach Tryz.prog o m).all (·<=reachBytes)=true->∀(i:Nat) t d,o[i]? =some t->m[i]? =some d->Rc t d:=by
 intro o
 induction o with
 | nil=>intro m _ i t d h;simp at h
 | cons x o E=>
   intro m h i t d A r
   cases m with
   | nil=>simp at r
   | cons y m=>
     rw[DataW.weightsEach,List.all_append,Bool.and_eq_true]at h
     cases i with
     | zero=>simp at A r;subst A;subst r;exact h.1
     | succ i=>exact E m h.2 i t d (by simpa using A) (by simpa using r)
theorem ky {H:Type}{T e:TypeId}(r:Tryz.prog.underlying T=some (.slice e)){m o:List (DataW H)}(h:Rc T (.slice m o)):(m.length+o.length)*Tryz.prog.bytesOf e<=140737488351232/\∀d∈m,Rc e d:=by
 unfold Rc at h
 rw[DataW.weights,r]at h
 simp only[List.all_cons,List.all_append,Bool.and_eq_true,decide_eq_true_eq]at h
 exact⟨by have:=h.1;unfold reachBytes at this;exact this,us m h.2.1⟩
theorem nC {H:Type}{T:TypeId}{m:Array Field}(o:Tryz.prog.underlying T=some (.struct m)){ps:List (DataW H)}(h:Rc T (.agg ps)):∀(i:Nat) f d,m[i]? =some f->ps[i]? =some d->Rc f.type d:=by
 unfold Rc at h
 rw[DataW.weights,o]at h
 intro i f d A r
 refine kI _ ps h i f.type d ?_ r
 rw[List.getElem?_map,Array.getElem?_toList,A];rfl
theorem sN {α:Type}(Q:Nat->α->Prop):∀n,(∀i,i<n->∃s,Q i s)->∃l:List α,l.length=n/\∀i s,l[i]? =some s->Q i s:=by
 intro n
 induction n with
 | zero=>intro _;exact⟨[],rfl,λi s h=>by simp at h⟩
 | succ n E=>
   intro h
   obtain⟨l,A,I⟩:=E (λi m=>h i (by omega))
   obtain⟨s,G⟩:=h n (by omega)
   refine⟨l++[s],by simp[A],λi x hx=> ?_⟩
   rcases Nat.lt_or_ge i l.length with m | m
   · rw[List.getElem?_append_left m]at hx;exact I i x hx
   · rw[List.getElem?_append_right m]at hx
     have o:=(List.getElem?_eq_some_iff.1 hx).1
     simp at o
     have r:i=n:=by omega
     subst r
     rw[A,Nat.sub_self]at hx
     simp at hx
     subst hx;exact G
theorem oH (b o n j:Nat):((⟨b,o,none⟩:Addr).add n).add j=⟨b,o+n+j,none⟩:=by
 unfold Addr.add
 split <;> split <;> simp_all
 all_goals omega
section
variable {H:Type} {enc:TypeId×Value->H} {W:World} {sp:Nat->Bool} {held:Bool}
theorem kF {α β:Type}{x:Option α}{f:α->Option β}{y:β}(h:x.bind f=some y):∃a,x=some a/\f a=some y:=by
 cases x with
 | none=>cases h
 | some a=>exact⟨a,rfl,h⟩
theorem c9:Tryz.prog.cellsOf 9=1:=by kernel_rfl
theorem c54:Tryz.prog.cellsOf 52=1:=by kernel_rfl
theorem c3:Tryz.prog.cellsOf 3=1:=by kernel_rfl
theorem c56:Tryz.prog.cellsOf 54=2:=by kernel_rfl
theorem c22:Tryz.prog.cellsOf 22=1:=by kernel_rfl
theorem c43:Tryz.prog.cellsOf 28=1:=by kernel_rfl
theorem c4:Tryz.prog.cellsOf 4=1:=by kernel_rfl
theorem c58:Tryz.prog.cellsOf 56=8:=by kernel_rfl
theorem c61:Tryz.prog.cellsOf 70=3:=by kernel_rfl
theorem b9:Tryz.prog.bytesOf 9=16:=by kernel_rfl
theorem b58:Tryz.prog.bytesOf 56=128:=by kernel_rfl
theorem b61:Tryz.prog.bytesOf 70=48:=by kernel_rfl
theorem vS {n:Int}(h:(Lit.int .i64 n).wf=true): -9223372036854775808<=n/\n<=9223372036854775807:=by
 simp[Lit.wf,IntKind.min,IntKind.max,IntKind.bits,IntKind.signed]at h
 omega
theorem zg {n:Int}(h:(Lit.int .u8 n).wf=true):0<=n/\n<=255:=by
 simp[Lit.wf,IntKind.min,IntKind.max,IntKind.bits,IntKind.signed]at h
 omega
theorem nN {fuel:Nat}{v:Value}{y:DataW H×List MemPlace}(h:DataW.trod enc Tryz.prog W 0 sp held fuel 28 [v]=some y)(hr:Rc 28 y.1):
 ∃l:List ByteArray,Strs (·<W.heap.size) W v l/\l.length<=140737488351232/\∀s∈l,s.size<=140737488351232:=by
 rcases DataW.trod_slice Tryz.underlying28 h with⟨m,-⟩ | ⟨a,len,cap,elems,rest,n,-,m,rfl,-,hl,hm,U,N,-,-⟩
 · simp at m;subst m
   exact⟨[],Strs.nil _ _,Nat.zero_le _,λs K=>by cases K⟩
 · simp at m;subst m
   obtain⟨R,r2⟩:=ky Tryz.underlying28 hr
   rw[b9]at R
   simp only[List.length_map]at R
   have key:∀i,i<len->∃s:ByteArray,s.size<=140737488351232/\W.cell? ((a.add (i*1)).add 0)=some (.string s):=by
    intro i J
    have Y:=N i J
    obtain⟨e,V⟩:∃e,elems[i]? =some e:=⟨_,List.getElem?_eq_getElem (by omega)⟩
    rw[V,c9]at Y
    obtain⟨cs,hc,ht⟩:=kF Y
    obtain⟨s,rfl,hx,K⟩:=DataW.trod_string Tryz.underlying9 ht
    obtain⟨-,-,O⟩:=World.cells?_some hc
    have E:=r2 e.1 (List.mem_map_of_mem (List.mem_of_getElem? V))
    rw[hx]at E
    exact⟨s,ik E,O 0 (by omega)⟩
   obtain⟨l,I,G⟩:=sN _ len key
   refine⟨l,⟨some a,cap,by rw[I],by omega,hm,λM=> ?_⟩,by omega,λs K=> ?_⟩
   · have h0:0<len:=by
      cases l with
      | nil=>exact absurd rfl M
      | cons x l=>simp at I;omega
     obtain⟨s0,-,A⟩:=key 0 h0
     have r:a.spot=none:=by have:=World.cell?_spot A;simpa[Addr.add]using this
     obtain⟨b,o,Z⟩:=a
     dsimp only at r
     subst r
     refine⟨b,o,rfl,?_,λi s J=> ?_⟩
     · have:=ej A
       rw[oH]at this;exact this
     · have:=(G i s J).2
       rw[oH]at this
       rwa[show o+i*1+0=o+i by omega]at this
   · obtain⟨i,J⟩:=List.mem_iff_getElem?.1 K
     exact(G i s J).1
def zB (ok:Nat->Prop) (w:World) (h:Hd) (k e:Pt) (b o:Nat):Prop:=
    (w.cell? ⟨b,o,none⟩=some (.int .u8 (h.kind:Nat))/\w.cell? ⟨b,o+1,none⟩=some (.int .i64 h.pos)/\w.cell? ⟨b,o+2,none⟩=some (.string h.text)/\w.cell? ⟨b,o+3,none⟩=some (.bool h.root)/\
      (∃v,w.cell? ⟨b,o+4,none⟩=some v/\Strs ok w v h.names)/\w.cell? ⟨b,o+5,none⟩=some (.string h.name))/\
    (∃v,w.cell? ⟨b,o+6,none⟩=some v/\d8 ok w v k)/\(∃v,w.cell? ⟨b,o+7,none⟩=some v/\d8 ok w v e)
theorem zB.cons {ok:Nat->Prop}{w:World}{h:Hd}{k e r:Pt}{b o:Nat}(A:zB ok w h k e b o)(m:Row ok w r b (o+8)):Row ok w (.cons h k e r) b o:=by
 obtain⟨q1,⟨v,q2,a,c,rfl,q3,q4,q5⟩,⟨I,q6,G,E,rfl,q7,q8,q9⟩⟩:=A
 exact⟨q1,⟨a,c,q2,q3,q4,q5⟩,⟨G,E,q6,q7,q8,q9⟩,m⟩
def HdE (h:Hd)(k e:Pt):Prop:=h.wf/\k.wf/\e.wf/\k.len<=140737488351232/\e.len<=140737488351232
theorem yB {ok:Nat->Prop}{w:World}(b o n:Nat)(G:∀i,i<n->∃h k e,HdE h k e/\zB ok w h k e b (o+i*8)):∀m k,k+m=n->∃t:Pt,t.len=m/\t.wf/\Row ok w t b (o+k*8):=by
 intro m
 induction m with
 | zero=>intro k _;exact⟨.nil,rfl,trivial,trivial⟩
 | succ m A=>
   intro k V
   obtain⟨t,J,I,W⟩:=A (k+1) (by omega)
   obtain⟨h,r,K,⟨U,R,O,N,M⟩,E⟩:=G k (by omega)
   refine⟨.cons h r K t,by simp[Pt.len,J],⟨U,R,O,I,N,M⟩,E.cons ?_⟩
   rwa[show o+k*8+8=o+(k+1)*8 by omega]
theorem lX (fuel:Nat):∀(v:Value) (y:DataW H×List MemPlace),DataW.trod enc Tryz.prog W 0 sp held fuel 22 [v]=some y->Rc 22 y.1->
 ∃t:Pt,d8 (·<W.heap.size) W v t/\t.wf/\t.len<=140737488351232:=by
 induction fuel using Nat.strongRecOn with
 | _ fuel ih=>
 intro v y h hr
 rcases DataW.trod_slice Tryz.underlying22 h with⟨R,-⟩ | ⟨a,len,cap,elems,rest,n,hn,R,rfl,-,hl,hm,af,ae,-,-⟩
 · simp at R;subst R
   exact⟨.nil,d8.nil _ _,trivial,Nat.zero_le _⟩
 · simp at R;subst R
   obtain⟨r1,r2⟩:=ky Tryz.underlying22 hr
   rw[b58]at r1
   simp only[List.length_map]at r1
   by_cases h0:len=0
   · subst h0
     exact⟨.nil,⟨some a,cap,rfl,Nat.zero_le _,hm,λe=>absurd rfl e⟩,trivial,Nat.zero_le _⟩
   have key:∀i,i<len->∃(cs:List Value) (e:DataW H×List MemPlace),elems[i]? =some e/\cs.length=8/\(∀j,j<8->W.cell? ((a.add (i*8)).add j)=cs[j]?)/\DataW.trod enc Tryz.prog W 0 sp held n 56 cs=some e/\Rc 56 e.1:=by
    intro i hi
    have h1:=ae i hi
    obtain⟨e,he⟩:∃e,elems[i]? =some e:=⟨_,List.getElem?_eq_getElem (by omega)⟩
    rw[he,c58]at h1
    obtain⟨cs,hc,ht⟩:=kF h1
    obtain⟨-,Z,A⟩:=World.cells?_some hc
    exact⟨cs,e,he,Z,A,ht,r2 e.1 (List.mem_map_of_mem (List.mem_of_getElem? he))⟩
   have ab:a.spot=none/\a.block<W.heap.size:=by
    obtain⟨cs,e,-,Z,A,-⟩:=key 0 (by omega)
    have O:=A 0 (by omega)
    rw[List.getElem?_eq_getElem (by omega)]at O
    refine⟨by have:=World.cell?_spot O;simpa[Addr.add]using this,by have:=ej O;simpa[Addr.add]using this⟩
   obtain⟨b,o,ag⟩:=a
   obtain⟨K,M⟩:=ab
   dsimp only at K M
   subst K
   have hE:∀i,i<len->∃h k e,HdE h k e/\zB (·<W.heap.size) W h k e b (o+i*8):=by
    intro i hi
    obtain⟨cs,e,-,Z,A,ht,U⟩:=key i hi
    obtain⟨xs,m,ai,hx,-,aa,N⟩:=DataW.trod_struct Tryz.underlying56 ht
    match cs,Z with
    | [v0,J,I,v3,v4,v5,G,E],_=>
      match xs,aa with
      | [y0,y1,y2,y3,y4,y5,y6],_=>
        rw[hx]at U
        have r:=nC Tryz.underlying56 U
        have f0:DataW.trod enc Tryz.prog W 0 sp held m 52 (([v0,J,I,v3,v4,v5,G,E].drop 0).take (Tryz.prog.cellsOf 52))=some y0:=N 0 _ rfl
        have f1:DataW.trod enc Tryz.prog W 0 sp held m 3 (([v0,J,I,v3,v4,v5,G,E].drop 1).take (Tryz.prog.cellsOf 3))=some y1:=N 1 _ rfl
        have f2:DataW.trod enc Tryz.prog W 0 sp held m 9 (([v0,J,I,v3,v4,v5,G,E].drop 2).take (Tryz.prog.cellsOf 9))=some y2:=N 2 _ rfl
        have f3:DataW.trod enc Tryz.prog W 0 sp held m 54 (([v0,J,I,v3,v4,v5,G,E].drop 3).take (Tryz.prog.cellsOf 54))=some y3:=N 3 _ rfl
        have f4:DataW.trod enc Tryz.prog W 0 sp held m 9 (([v0,J,I,v3,v4,v5,G,E].drop 5).take (Tryz.prog.cellsOf 9))=some y4:=N 4 _ rfl
        have f5:DataW.trod enc Tryz.prog W 0 sp held m 22 (([v0,J,I,v3,v4,v5,G,E].drop 6).take (Tryz.prog.cellsOf 22))=some y5:=N 5 _ rfl
        have f6:DataW.trod enc Tryz.prog W 0 sp held m 22 (([v0,J,I,v3,v4,v5,G,E].drop 7).take (Tryz.prog.cellsOf 22))=some y6:=N 6 _ rfl
        rw[c54]at f0
        rw[c3]at f1
        rw[c9]at f2
        rw[c56]at f3
        rw[c9]at f4
        rw[c22]at f5
        rw[c22]at f6
        have g0:DataW.trod enc Tryz.prog W 0 sp held m 52 [v0]=some y0:=f0
        have g1:DataW.trod enc Tryz.prog W 0 sp held m 3 [J]=some y1:=f1
        have g2:DataW.trod enc Tryz.prog W 0 sp held m 9 [I]=some y2:=f2
        have g3:DataW.trod enc Tryz.prog W 0 sp held m 54 [v3,v4]=some y3:=f3
        have g4:DataW.trod enc Tryz.prog W 0 sp held m 9 [v5]=some y4:=f4
        have g5:DataW.trod enc Tryz.prog W 0 sp held m 22 [G]=some y5:=f5
        have g6:DataW.trod enc Tryz.prog W 0 sp held m 22 [E]=some y6:=f6
        have q2:Rc 9 y2.1:=r 2 _ _ rfl rfl
        have q3:Rc 54 y3.1:=r 3 _ _ rfl rfl
        have q4:Rc 9 y4.1:=r 4 _ _ rfl rfl
        have q5:Rc 22 y5.1:=r 5 _ _ rfl rfl
        have q6:Rc 22 y6.1:=r 6 _ _ rfl rfl
        obtain⟨kind,e0,-,w0⟩:=DataW.trod_int Tryz.underlying52 g0
        obtain⟨pos,e1,-,w1⟩:=DataW.trod_int Tryz.underlying3 g1
        obtain⟨text,e2,x2,-⟩:=DataW.trod_string Tryz.underlying9 g2
        obtain⟨name,e4,x4,-⟩:=DataW.trod_string Tryz.underlying9 g4
        obtain⟨kd,pk,wk,lk⟩:=ih m (by omega) _ _ g5 q5
        obtain⟨el,pe,we,le⟩:=ih m (by omega) _ _ g6 q6
        obtain⟨ps,Y,ah,hp,-,ad,V⟩:=DataW.trod_struct Tryz.underlying54 g3
        match ps,ad with
        | [z0,z1],_=>
          rw[hp]at q3
          have ac:=nC Tryz.underlying54 q3
          have p0:DataW.trod enc Tryz.prog W 0 sp held Y 4 (([v3,v4].drop 0).take (Tryz.prog.cellsOf 4))=some z0:=V 0 _ rfl
          have p1:DataW.trod enc Tryz.prog W 0 sp held Y 28 (([v3,v4].drop 1).take (Tryz.prog.cellsOf 28))=some z1:=V 1 _ rfl
          rw[c4]at p0
          rw[c43]at p1
          have s0:DataW.trod enc Tryz.prog W 0 sp held Y 4 [v3]=some z0:=p0
          have s1:DataW.trod enc Tryz.prog W 0 sp held Y 28 [v4]=some z1:=p1
          obtain⟨root,e3,-⟩:=DataW.trod_bool Tryz.underlying4 s0
          obtain⟨names,hs,ln,sn⟩:=nN s1 (ac 1 _ _ rfl rfl)
          simp at e0 e1 e2 e3 e4
          subst e0 e1 e2 e3 e4
          rw[x2]at q2
          rw[x4]at q4
          have t2:=ik q2
          have t4:=ik q4
          obtain⟨a1,a2⟩:=zg w0
          obtain⟨b1,b2⟩:=vS w1
          have at_:∀j,j<8->W.cell? ⟨b,o+i*8+j,none⟩=[Value.int .u8 kind,.int .i64 pos,.string text,.bool root,v4,.string name,G,E][j]? :=λj hj=>by
           have:=A j hj;rwa[oH]at this
          refine⟨⟨kind.toNat,pos,text,root,names,name⟩,kd,el,⟨⟨by show kind.toNat<256;omega,b1,b2,t2,t4,ln,sn⟩,wk,we,lk,le⟩,⟨?_,at_ 1 (by omega),at_ 2 (by omega),at_ 3 (by omega),⟨v4,at_ 4 (by omega),hs⟩,at_ 5 (by omega)⟩,⟨G,at_ 6 (by omega),pk⟩,⟨E,at_ 7 (by omega),pe⟩⟩
          have:=at_ 0 (by omega)
          rw[Nat.add_zero]at this
          rw[this]
          show some (Value.int .u8 kind)=some (.int .u8 ((kind.toNat:Nat):Int))
          rw[show((kind.toNat:Nat):Int)=kind by omega]
   obtain⟨t,h1,h2,h3⟩:=yB b o len hE len 0 (by omega)
   refine⟨t,⟨some ⟨b,o,none⟩,cap,by rw[h1],by omega,hm,λ_=>⟨b,o,rfl,M,by rw[Nat.zero_mul,Nat.add_zero]at h3;exact h3⟩⟩,h2,by omega⟩
theorem sD {fuel:Nat}{v:Value}{y:DataW H×List MemPlace}(h:DataW.trod enc Tryz.prog W 0 sp held fuel 23 [v]=some y)(hr:Rc 23 y.1):
 ∃l:List Df,fU (·<W.heap.size) W v l/\l.length<=140737488351232/\∀d∈l,d.name.size<=140737488351232/\d.kids.wf/\d.kids.len<=140737488351232:=by
 rcases DataW.trod_slice Tryz.underlying23 h with⟨M,-⟩ | ⟨a,len,cap,elems,rest,n,hn,M,rfl,-,hl,hm,af,ae,-,-⟩
 · simp at M;subst M
   exact⟨[],fU.nil _ _,Nat.zero_le _,λs hs=>by cases hs⟩
 · simp at M;subst M
   obtain⟨r1,r2⟩:=ky Tryz.underlying23 hr
   rw[b61]at r1
   simp only[List.length_map]at r1
   by_cases h0:len=0
   · subst h0
     exact⟨[],⟨some a,cap,rfl,Nat.zero_le _,hm,λe=>absurd rfl e⟩,Nat.zero_le _,λs hs=>by cases hs⟩
   have key:∀i,i<len->∃(cs:List Value) (e:DataW H×List MemPlace),elems[i]? =some e/\cs.length=3/\(∀j,j<3->W.cell? ((a.add (i*3)).add j)=cs[j]?)/\DataW.trod enc Tryz.prog W 0 sp held n 70 cs=some e/\Rc 70 e.1:=by
    intro i V
    have K:=ae i V
    obtain⟨e,he⟩:∃e,elems[i]? =some e:=⟨_,List.getElem?_eq_getElem (by omega)⟩
    rw[he,c61]at K
    obtain⟨cs,hc,ht⟩:=kF K
    obtain⟨-,Z,r⟩:=World.cells?_some hc
    exact⟨cs,e,he,Z,r,ht,r2 e.1 (List.mem_map_of_mem (List.mem_of_getElem? he))⟩
   have ac:a.spot=none/\a.block<W.heap.size:=by
    obtain⟨cs,e,-,Z,r,-⟩:=key 0 (by omega)
    have I:=r 0 (by omega)
    rw[List.getElem?_eq_getElem (by omega)]at I
    refine⟨by have:=World.cell?_spot I;simpa[Addr.add]using this,by have:=ej I;simpa[Addr.add]using this⟩
   obtain⟨b,o,ag⟩:=a
   obtain⟨A,E⟩:=ac
   dsimp only at A E
   subst A
   have hE:∀i,i<len->∃d:Df,(d.name.size<=140737488351232/\d.kids.wf/\d.kids.len<=140737488351232)/\W.cell? ⟨b,o+i*3,none⟩=some (.string d.name)/\W.cell? ⟨b,o+i*3+1,none⟩=some (.int .i64 d.pos)/\∃v,W.cell? ⟨b,o+i*3+2,none⟩=some v/\d8 (·<W.heap.size) W v d.kids:=by
    intro i V
    obtain⟨cs,e,-,Z,r,ht,R⟩:=key i V
    obtain⟨xs,G,ah,hx,-,ab,hf⟩:=DataW.trod_struct Tryz.underlying70 ht
    match cs,Z with
    | [v0,Y,J],_=>
      match xs,ab with
      | [y0,y1,y2],_=>
        rw[hx]at R
        have O:=nC Tryz.underlying70 R
        have f0:DataW.trod enc Tryz.prog W 0 sp held G 9 (([v0,Y,J].drop 0).take (Tryz.prog.cellsOf 9))=some y0:=hf 0 _ rfl
        have f1:DataW.trod enc Tryz.prog W 0 sp held G 3 (([v0,Y,J].drop 1).take (Tryz.prog.cellsOf 3))=some y1:=hf 1 _ rfl
        have f2:DataW.trod enc Tryz.prog W 0 sp held G 22 (([v0,Y,J].drop 2).take (Tryz.prog.cellsOf 22))=some y2:=hf 2 _ rfl
        rw[c9]at f0
        rw[c3]at f1
        rw[c22]at f2
        have g0:DataW.trod enc Tryz.prog W 0 sp held G 9 [v0]=some y0:=f0
        have g1:DataW.trod enc Tryz.prog W 0 sp held G 3 [Y]=some y1:=f1
        have g2:DataW.trod enc Tryz.prog W 0 sp held G 22 [J]=some y2:=f2
        have q0:Rc 9 y0.1:=O 0 _ _ rfl rfl
        have q2:Rc 22 y2.1:=O 2 _ _ rfl rfl
        obtain⟨name,e0,x0,-⟩:=DataW.trod_string Tryz.underlying9 g0
        obtain⟨pos,e1,-,w1⟩:=DataW.trod_int Tryz.underlying3 g1
        obtain⟨kd,pk,wk,lk⟩:=lX G _ _ g2 q2
        simp at e0 e1
        subst e0 e1
        rw[x0]at q0
        have at_:∀j,j<3->W.cell? ⟨b,o+i*3+j,none⟩=[Value.string name,.int .i64 pos,J][j]? :=λj hj=>by
         have:=r j hj;rwa[oH]at this
        refine⟨⟨name,pos,kd⟩,⟨ik q0,wk,lk⟩,?_,at_ 1 (by omega),J,at_ 2 (by omega),pk⟩
        have:=at_ 0 (by omega)
        rwa[Nat.add_zero]at this
   obtain⟨l,ad,U⟩:=sN _ len hE
   have N:∀(m:List Df) (k:Nat),(∀i d,m[i]? =some d->l[k+i]? =some d)->hZ (·<W.heap.size) W m b (o+k*3):=by
    intro m
    induction m with
    | nil=>intro k _;exact trivial
    | cons d m aa=>
      intro k hk
      have K:=U k d (by have:=hk 0 d rfl;rwa[Nat.add_zero]at this)
      refine⟨K.2.1,K.2.2.1,K.2.2.2,?_⟩
      have:=aa (k+1) (λi x hx=>by have:=hk (i+1) x (by simpa using hx);rwa[show k+(i+1)=k+1+i by omega]at this)
      rwa[show o+k*3+3=o+(k+1)*3 by omega]
   refine⟨l,⟨some ⟨b,o,none⟩,cap,by rw[ad],by omega,hm,λ_=>⟨b,o,rfl,E,by have:=N l 0 (λi d h=>by rwa[Nat.zero_add]);rwa[Nat.zero_mul,Nat.add_zero]at this⟩⟩,by omega,λd hd=> ?_⟩
   obtain⟨i,V⟩:=List.mem_iff_getElem?.1 hd
   exact(U i d V).1
theorem mH {r:Reach}{b0:Nat}{v:Value}{d:DataW H}{p:List MemPlace}(N:Value.okWide Tryz.prog W r b0 25 v)(h:DataW.Trod enc Tryz.prog W 0 sp held 25 v d p)(O:Rc 25 d):
 ∃(t:Tm) (o E:Value),v=.agg #[o,E]/\Aw t o E W:=by
 obtain⟨o,E,G,y1,n,rfl,rfl,-,V,U⟩:=open_agg2 Tryz.underlying25 (by kernel_rfl) (by kernel_rfl) N h
 have A:=nC Tryz.underlying25 O
 obtain⟨m,J,I,K⟩:=lX n o G V (A 0 _ _ rfl rfl)
 obtain⟨Y,Z,M,R⟩:=sD U (A 1 _ _ rfl rfl)
 exact⟨⟨m,Y⟩,o,E,rfl,⟨⟨I,K⟩,M,R⟩,J,Z⟩
theorem cV:Tryz.prog.cellsOf 31=7:=by kernel_rfl
theorem cVk:Tryz.prog.cellsOf 26=1:=by kernel_rfl
theorem cVi:Tryz.prog.cellsOf 2=1:=by kernel_rfl
theorem cVu:Tryz.prog.cellsOf 27=1:=by kernel_rfl
theorem cVs:Tryz.prog.cellsOf 29=1:=by kernel_rfl
theorem bV:Tryz.prog.bytesOf 31=88:=by kernel_rfl
theorem zh {n:Int}(h:(Lit.int .u64 n).wf=true):0<=n/\n<=18446744073709551615:=by
 simp[Lit.wf,IntKind.min,IntKind.max,IntKind.bits,IntKind.signed]at h
 omega
open Ev in
def zA (ok:Nat->Prop) (w:World) (h:Vh) (k:Vl) (b o:Nat):Prop:=
    (w.cell? ⟨b,o,none⟩=some (.int .u8 (h.kind:Nat))/\w.cell? ⟨b,o+1,none⟩=some (.bool h.b)/\w.cell? ⟨b,o+2,none⟩=some (.int .i64 h.n)/\w.cell? ⟨b,o+3,none⟩=some (.int .u64 (h.bits:Nat))/\w.cell? ⟨b,o+4,none⟩=some (.string h.text)/\
      (∃v,w.cell? ⟨b,o+5,none⟩=some v/\Strs ok w v h.keys))/\
    (∃v,w.cell? ⟨b,o+6,none⟩=some v/\gb ok w v k)
open Ev in
theorem zA.cons {ok:Nat->Prop}{w:World}{h:Vh}{k r:Vl}{b o:Nat}(A:zA ok w h k b o)(m:fF ok w r b (o+7)):fF ok w (.cons h k r) b o:=by
 obtain⟨q1,v,q2,a,c,rfl,q3,q4,q5⟩:=A
 exact⟨q1,⟨a,c,q2,q3,q4,q5⟩,m⟩
open Ev in
theorem wO {ok:Nat->Prop}{w:World}(b o n:Nat)(G:∀i,i<n->∃h k,(h.wf/\wfX k/\k.len<=140737488351232)/\zA ok w h k b (o+i*7)):∀m k,k+m=n->∃t:Vl,t.len=m/\wfX t/\fF ok w t b (o+k*7):=by
 intro m
 induction m with
 | zero=>intro k _;exact⟨.nil,rfl,trivial,trivial⟩
 | succ m A=>
   intro k O
   obtain⟨t,J,I,R⟩:=A (k+1) (by omega)
   obtain⟨h,r,⟨N,M,K⟩,E⟩:=G k (by omega)
   refine⟨.cons h r t,by simp[Vl.len,J],⟨N,M,I,K⟩,E.cons ?_⟩
   rwa[show o+k*7+7=o+(k+1)*7 by omega]
open Ev in
theorem lY {fuel:Nat}(ih:∀n,n<fuel->∀(v:Value) (y:DataW H×List MemPlace),DataW.trod enc Tryz.prog W 0 sp held n 29 [v]=some y->Rc 29 y.1->
 ∃t:Vl,gb (·<W.heap.size) W v t/\wfX t/\t.len<=140737488351232)
 {cs:List Value} {e:DataW H×List MemPlace} (h7:cs.length=7) (ht:DataW.trod enc Tryz.prog W 0 sp held fuel 31 cs=some e) (I:Rc 31 e.1):
 ∃(h:Vh) (k:Vl) (Y Z:Value),cs=[.int .u8 (h.kind:Nat),.bool h.b,.int .i64 h.n,.int .u64 (h.bits:Nat),.string h.text,Y,Z]/\Strs (·<W.heap.size) W Y h.keys/\gb (·<W.heap.size) W Z k/\h.wf/\wfX k/\k.len<=140737488351232:=by
 obtain⟨xs,m,aa,hx,-,K,G⟩:=DataW.trod_struct Tryz.underlying31 ht
 match cs,h7 with
 | [v0,A,r,v3,v4,v5,o],_=>
   match xs,K with
   | [V,U,R,O,J,N,M],_=>
     rw[hx]at I
     have E:=nC Tryz.underlying31 I
     have f0:DataW.trod enc Tryz.prog W 0 sp held m 26 (([v0,A,r,v3,v4,v5,o].drop 0).take (Tryz.prog.cellsOf 26))=some V:=G 0 _ rfl
     have f1:DataW.trod enc Tryz.prog W 0 sp held m 4 (([v0,A,r,v3,v4,v5,o].drop 1).take (Tryz.prog.cellsOf 4))=some U:=G 1 _ rfl
     have f2:DataW.trod enc Tryz.prog W 0 sp held m 2 (([v0,A,r,v3,v4,v5,o].drop 2).take (Tryz.prog.cellsOf 2))=some R:=G 2 _ rfl
     have f3:DataW.trod enc Tryz.prog W 0 sp held m 27 (([v0,A,r,v3,v4,v5,o].drop 3).take (Tryz.prog.cellsOf 27))=some O:=G 3 _ rfl
     have f4:DataW.trod enc Tryz.prog W 0 sp held m 9 (([v0,A,r,v3,v4,v5,o].drop 4).take (Tryz.prog.cellsOf 9))=some J:=G 4 _ rfl
     have f5:DataW.trod enc Tryz.prog W 0 sp held m 28 (([v0,A,r,v3,v4,v5,o].drop 5).take (Tryz.prog.cellsOf 28))=some N:=G 5 _ rfl
     have f6:DataW.trod enc Tryz.prog W 0 sp held m 29 (([v0,A,r,v3,v4,v5,o].drop 6).take (Tryz.prog.cellsOf 29))=some M:=G 6 _ rfl
     rw[cVk]at f0
     rw[c4]at f1
     rw[cVi]at f2
     rw[cVu]at f3
     rw[c9]at f4
     rw[c43]at f5
     rw[cVs]at f6
     have g0:DataW.trod enc Tryz.prog W 0 sp held m 26 [v0]=some V:=f0
     have g1:DataW.trod enc Tryz.prog W 0 sp held m 4 [A]=some U:=f1
     have g2:DataW.trod enc Tryz.prog W 0 sp held m 2 [r]=some R:=f2
     have g3:DataW.trod enc Tryz.prog W 0 sp held m 27 [v3]=some O:=f3
     have g4:DataW.trod enc Tryz.prog W 0 sp held m 9 [v4]=some J:=f4
     have g5:DataW.trod enc Tryz.prog W 0 sp held m 28 [v5]=some N:=f5
     have g6:DataW.trod enc Tryz.prog W 0 sp held m 29 [o]=some M:=f6
     have q4:Rc 9 J.1:=E 4 _ _ rfl rfl
     obtain⟨kind,e0,-,w0⟩:=DataW.trod_int Tryz.underlying26 g0
     obtain⟨bo,e1,-⟩:=DataW.trod_bool Tryz.underlying4 g1
     obtain⟨nn,e2,-,w2⟩:=DataW.trod_int Tryz.underlying2 g2
     obtain⟨bits,e3,-,w3⟩:=DataW.trod_int Tryz.underlying27 g3
     obtain⟨text,e4,x4,-⟩:=DataW.trod_string Tryz.underlying9 g4
     obtain⟨keys,hs,ln,sn⟩:=nN g5 (E 5 _ _ rfl rfl)
     obtain⟨kd,pk,wk,lk⟩:=ih m (by omega) _ _ g6 (E 6 _ _ rfl rfl)
     simp at e0 e1 e2 e3 e4
     subst e0 e1 e2 e3 e4
     rw[x4]at q4
     have t4:=ik q4
     obtain⟨a1,a2⟩:=zg w0
     obtain⟨b1,b2⟩:=vS w2
     obtain⟨d1,d2⟩:=zh w3
     refine⟨⟨kind.toNat,bo,nn,bits.toNat,text,keys⟩,kd,v5,o,?_,hs,pk,⟨by show kind.toNat<256;omega,b1,b2,by show bits.toNat<_;omega,t4,ln,sn⟩,wk,lk⟩
     dsimp only
     rw[show((kind.toNat:Nat):Int)=kind by omega,show((bits.toNat:Nat):Int)=bits by omega]
open Ev in
theorem sC (fuel:Nat):∀(v:Value) (y:DataW H×List MemPlace),DataW.trod enc Tryz.prog W 0 sp held fuel 29 [v]=some y->Rc 29 y.1->
 ∃t:Vl,gb (·<W.heap.size) W v t/\wfX t/\t.len<=140737488351232:=by
 induction fuel using Nat.strongRecOn with
 | _ fuel ih=>
 intro v y h hr
 rcases DataW.trod_slice Tryz.underlying29 h with⟨I,-⟩ | ⟨a,len,cap,elems,rest,n,hn,I,rfl,-,hl,O,aa,U,-,-⟩
 · simp at I;subst I
   exact⟨.nil,gb.nil _ _,trivial,Nat.zero_le _⟩
 · simp at I;subst I
   obtain⟨r1,r2⟩:=ky Tryz.underlying29 hr
   rw[bV]at r1
   simp only[List.length_map]at r1
   by_cases h0:len=0
   · subst h0
     exact⟨.nil,⟨some a,cap,rfl,Nat.zero_le _,O,λe=>absurd rfl e⟩,trivial,Nat.zero_le _⟩
   have key:∀i,i<len->∃(cs:List Value) (e:DataW H×List MemPlace),elems[i]? =some e/\cs.length=7/\(∀j,j<7->W.cell? ((a.add (i*7)).add j)=cs[j]?)/\DataW.trod enc Tryz.prog W 0 sp held n 31 cs=some e/\Rc 31 e.1:=by
    intro i R
    have J:=U i R
    obtain⟨e,V⟩:∃e,elems[i]? =some e:=⟨_,List.getElem?_eq_getElem (by omega)⟩
    rw[V,cV]at J
    obtain⟨cs,hc,K⟩:=kF J
    obtain⟨-,h8,r⟩:=World.cells?_some hc
    exact⟨cs,e,V,h8,r,K,r2 e.1 (List.mem_map_of_mem (List.mem_of_getElem? V))⟩
   have M:a.spot=none/\a.block<W.heap.size:=by
    obtain⟨cs,e,-,h8,r,-⟩:=key 0 (by omega)
    have G:=r 0 (by omega)
    rw[List.getElem?_eq_getElem (by omega)]at G
    refine⟨by have:=World.cell?_spot G;simpa[Addr.add]using this,by have:=ej G;simpa[Addr.add]using this⟩
   obtain⟨b,o,ab⟩:=a
   obtain⟨A,E⟩:=M
   dsimp only at A E
   subst A
   have hE:∀i,i<len->∃h k,(h.wf/\wfX k/\k.len<=140737488351232)/\zA (·<W.heap.size) W h k b (o+i*7):=by
    intro i R
    obtain⟨cs,e,-,h7,r,K,N⟩:=key i R
    obtain⟨h,k,Y,Z,rfl,hs,pk,wh,wk,lk⟩:=lY (λm O=>ih m (by omega)) h7 K N
    have at_:∀j,j<7->W.cell? ⟨b,o+i*7+j,none⟩=[Value.int .u8 (h.kind:Nat),.bool h.b,.int .i64 h.n,.int .u64 (h.bits:Nat),.string h.text,Y,Z][j]? :=λj hj=>by
     have:=r j hj;rwa[oH]at this
    exact⟨h,k,⟨wh,wk,lk⟩,⟨at_ 0 (by omega),at_ 1 (by omega),at_ 2 (by omega),at_ 3 (by omega),at_ 4 (by omega),Y,at_ 5 (by omega),hs⟩,Z,at_ 6 (by omega),pk⟩
   obtain⟨t,J,h2,h3⟩:=wO b o len hE len 0 (by omega)
   exact⟨t,⟨some ⟨b,o,none⟩,cap,by rw[J],by omega,O,λ_=>⟨b,o,rfl,E,by rw[Nat.zero_mul,Nat.add_zero]at h3;exact h3⟩⟩,h2,by omega⟩
end
open Go.RowKit Go.Shelf Go.ChangeShapes Go.WideShapes Go.Joins Ev
variable {H:Type} {enc:TypeId×Value->H} {W:World} {sp:Nat->Bool} {held:Bool}
theorem rc {r:Reach}{O:Nat}{v:Value}{d:DataW H}{p:List MemPlace}(J:Value.okWide Tryz.prog W r O 31 v)(h:DataW.Trod enc Tryz.prog W 0 sp held 31 v d p)(A:Rc 31 d):
 ∃(x:Va) (a1:Option Addr) (c1:Nat) (a2:Option Addr) (c2:Nat),v=.agg #[.int .u8 (x.h.kind:Nat),.bool x.h.b,.int .i64 x.h.n,.int .u64 (x.h.bits:Nat),.string x.h.text,.slice a1 x.h.keys.length c1,.slice a2 x.items.len c2]/\fu (·<W.heap.size) W x a1 c1 a2 c2/\Va.wf x:=by
 obtain⟨cs,rfl,o⟩:=okWide_struct Tryz.underlying31 J
 obtain⟨fuel,M⟩:=h
 have N:cs.toList.length=7:=by rw[Array.length_toList,o,cV]
 obtain⟨K,k,R,U,m,E,G,w1,w2,I⟩:=lY (λn _ v y h A=>sC n v y h A) N M A
 obtain⟨a1,c1,rfl⟩:=E.cases
 obtain⟨a2,c2,rfl,-⟩:=id G
 refine⟨⟨K,k⟩,a1,c1,a2,c2,?_,⟨E,G⟩,w1,w2,I⟩
 obtain⟨l⟩:=cs
 simp only at m
 rw[m]
open Go.RowKit Go.Shelf Go.Lib Go.ChangeShapes
theorem ny {H:Type}{enc:TypeId×Value->H}{C:Checked}{os:Os}{f:FuncId}{fn:Func}{s:ChangeSpec}{I:List PathCond}{m fresh r J:Bool}{X:World->Array Value->Prop}
 (hX:∀(w w':World) (args:Array Value),w.heap=w'.heap->X w args->X w' args)
 (own:ownKnob C.prog.godebug=none) (G:os.Started) (K:C.prog.inits.idxOf? f=none) (ab:C.prog.funcs[f]? =some fn)
 (E:∃(w:World) (tape:Tape) (i:Input),w.os=os/\(w.forCall tape i).Shaped C.prog/\i.vars=[]/\Input.okWide C.prog (w.forCall tape i) .any w.heap.size f i/\
   ((s.pre enc C.prog fn I m (w.forCall tape i).memory i.args/\X (w.forCall tape i).memory i.args)/\sizedMet enc C.prog fn (OpenSpec.ofChange s) m (w.forCall tape i).memory i.args)/\({}:Assume).holds C.prog (lone (Frame.enter C.prog f i.args .normal) [] (w.forCall tape i)))
 (A:∀(W:World) (base:Nat) (args:Array Value) (V U:List (DataW H)) (o:List MemPlace),
   (∀(j:Nat) t v,fn.params[j]? =some t->args[j]? =some v->Value.okWide C.prog W .any base t v)->
   DataW.Whole enc C.prog fn.params.toList s.vars m W args.toList V U o->
   (DataW.weightsEach C.prog (fn.params.toList++(OpenSpec.ofChange s).bare.plain.varTypes C.prog) (V++U)).all (·<=reachBytes)=true->
   X W args->W.ShapedOpen C.prog->
   Calls C.prog f args W λe W'=>∃v,e=.returned v/\s.post enc C.prog fn m fresh r J W args v W'):
 ReturnsInHanded {} C os f .any (λw args=>(s.pre enc C.prog fn I m w args/\X w args)/\sizedMet enc C.prog fn (OpenSpec.ofChange s) m w args) (s.post enc C.prog fn m fresh r J):=by
 refine returnsInHanded_of_calls own G K E ?_
 intro w tape i _ Z _ aa N R
 obtain⟨_,_,_,ac,O,_,_,_,_,M⟩:=aa
 obtain rfl:ac=fn:=Option.some.inj (O.symm.trans ab)
 obtain⟨⟨-,hx⟩,-,V,U,o,hw,hz⟩:=N
 have Y:=DataW.Whole.of_heap (w':=w.forCall tape i) (by rfl) hw
 refine(A (w.forCall tape i) w.heap.size i.args V U o M Y hz (hX _ _ _ (by rfl) hx) Z).mono λe W' ⟨v,he,hp⟩=> ?_
 subst he
 exact ChangeSpec.post_blind hp
theorem uZ:Pinned.utf8First=firstData:=by kernel_rfl
theorem tN:(Rows.laid_unicode_utf8_acceptRanges:DataW Unit)=acceptData:=by kernel_rfl
def gG:List (String×DataW Unit):=[("unicode/utf8.acceptRanges",Rows.laid_unicode_utf8_acceptRanges),("unicode/utf8.first",Rows.laid_unicode_utf8_first)]
theorem nj {w:World}(h:laidMet Tryz.prog gG w):rK w:=by
 refine utf8Tabs_of_readsT (ρ:=Lb.ren) {Lb.n197 with} ⟨by kernel_rfl,by kernel_rfl,by kernel_rfl,by kernel_rfl,by kernel_rfl,by kernel_rfl,by kernel_rfl⟩ ?_ ?_
 · exact uZ ▸ laidMet.reads h (.tail _ (.head _))
 · exact tN ▸ laidMet.reads h (.head _)
noncomputable def jt (os:Os):World:=(World.holding Tryz.prog os ⟨#[],#[],[]⟩).layVars Tryz.prog gG
theorem nU (os:Os):(jt os).os=os:=World.layVars_os _ _ _
theorem mL (os:Os)(args:Array Value):laidMet Tryz.prog gG ((jt os).forCall (λ_ _=>0) ⟨#[],args,[]⟩).memory:=by
 have m:(gG.filter λx=>(gG.map (·.1)).contains x.1)=gG:=by kernel_rfl
 have o:(gG.filter λx=> !(gG.map (·.1)).contains x.1)=[]:=by kernel_rfl
 have h:laidMet Tryz.prog gG (jt os):=laidMet_layVars (w0:=World.holding Tryz.prog os ⟨#[],#[],[]⟩) (gG.map (·.1)) [] (by rw[m];rfl) (by rw[m];kernel_rfl) (by rw[m];kernel_rfl) (by rw[o];exact LaidIn.none)
 exact h.of_heap (by simp[World.memory,World.forCall,Input.heap])
end Go.Proofs.YtepcpgdfbaklfaaGreatDoor
