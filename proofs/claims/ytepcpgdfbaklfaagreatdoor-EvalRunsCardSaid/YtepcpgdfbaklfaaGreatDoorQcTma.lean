/- Laws on maps that are written out: a literal's insertion, a look-up. No condition but the map's form in memory. -/
import Derived.Test.YtepcpgdfbaklfaaGreatDoorQcTp0
import Derived.WideMake
import Derived.Maps.OwnOps
import Derived.Test.YtepcpgdfbaklfaaGreatDoorQcMath
import Derived.Test.YtepcpgdfbaklfaaGreatDoorQcTrc
import Derived.Test.YtepcpgdfbaklfaaGreatDoorQcLib
import Derived.RangeFuncBox
import Derived.RangeFuncLeaves
import Derived.RangeFuncFrom
import Derived.Maps.AppendAt
import Derived.WalkSpells
import Derived.WalkLawsBesides
set_option maxRecDepth 100000
set_option maxHeartbeats 2000000
set_option linter.unusedVariables false
namespace Go.Proofs.YtepcpgdfbaklfaaGreatDoor
open Go.RowKit Go.Shelf Go.ChangeMaps Go.MapKept
theorem lS {P:Program}{w:World}(o r N:TypeId)(b m:Nat)(A:Array MapEntry)(s:ByteArray)(val:Value)(J:P.underlying o=some (.map r N))(G:P.underlying r=some .string)(I:w.heap[b]? =some (.map A m))
 (K:Instr.findNow .string (.string s) A.toList 0=some none):
 (Instr.mapUpdate o (.map (some b)) (.string s) val).run P w=.ok () (setBlock w b (.map (A.push {key:=.string s,val:=val,born:=m}) (m+1))):=by
 have M:(Instr.checkKey false 10000 r (.string s)).run P w=.ok () w:=MapKept.run_checkKey (k:=.string s) G (by simp[MapKept.IsKey]) false 9999
 have E:(Instr.findKey r (.string s) A.toList).run P w=.ok none w:=by simp[Instr.findKey,run_underlying G,K,Result.andThen]
 simp[Instr.mapUpdate,run_underlying J,MapKept.run_getObj_map I,M,E,MapKept.run_setObj_map _ I,Result.andThen,setBlock]
theorem ez {P:Program}{w:World}(o r N:TypeId)(b m:Nat)(E:Array MapEntry)(s:ByteArray)(i:Nat)(v:Value)(ok:Bool)(I:P.underlying o=some (.map r N))(G:P.underlying r=some .string)(M:w.heap[b]? =some (.map E m))
 (J:Instr.findNow .string (.string s) E.toList 0=some (some (i,v))):
 (Instr.lookup o (.map (some b)) (.string s) ok).run P w=.ok (if ok then .tuple #[v,.bool true]else v) w:=by
 have K:∀e,(Instr.checkKey e 10000 r (.string s)).run P w=.ok () w:=λe=>MapKept.run_checkKey (k:=.string s) G (by simp[MapKept.IsKey]) e 9999
 have A:(Instr.findKey r (.string s) E.toList).run P w=.ok (some (i,v)) w:=by simp[Instr.findKey,run_underlying G,J,Result.andThen]
 simp[Instr.lookup,run_underlying I,MapKept.run_getObj_map M,K,A,Result.andThen]
theorem fL {P:Program}{w:World}(o r I:TypeId)(b m:Nat)(E:Array MapEntry)(s:ByteArray)(z:Value)(ok:Bool)(K:P.underlying o=some (.map r I))(G:P.underlying r=some .string)(O:w.heap[b]? =some (.map E m))
 (M:Instr.findNow .string (.string s) E.toList 0=some none) (J:(zeroValue I).run P w=.ok z w):
 (Instr.lookup o (.map (some b)) (.string s) ok).run P w=.ok (if ok then .tuple #[z,.bool false]else z) w:=by
 have N:∀e,(Instr.checkKey e 10000 r (.string s)).run P w=.ok () w:=λe=>MapKept.run_checkKey (k:=.string s) G (by simp[MapKept.IsKey]) e 9999
 have A:(Instr.findKey r (.string s) E.toList).run P w=.ok none w:=by simp[Instr.findKey,run_underlying G,M,Result.andThen]
 simp[Instr.lookup,run_underlying K,MapKept.run_getObj_map O,N,A,J,Result.andThen]
def ku (B:Nat)(w0:World)(b:Nat)(o:Array MapEntry)(m:Nat)(w:World):Prop:=w.heap[b]? =some (.map o m)/\B<=b/\Below B w0 w
theorem ku.made (w:World):ku w.heap.size w w.heap.size #[] 0 (w.alloc (.map #[] 0)):=⟨(MapKept.heap_alloc w _).1,AG _,(AH _ w).alloc (AG _) _⟩
theorem iS {B:Nat}{w0 w:World}(h:Below B w0 w){b:Nat}(G:B<=b)(o:Obj)(E:Array MapEntry)(m:Nat)(r:w.heap[b]? =some (.map E m)):Below B w0 (setBlock w b o):=
 ⟨h.os,h.tape,h.output,by simp[setBlock];exact h.size,λk A=>(heap_setBlock_other r o (λe=>by omega)).trans (h.block k A)⟩
theorem fo {P:Program}(w:World){A:Array Oper}{rest:List Oper}{o:Oper}{a:Act}{Q:Exit->Act->World->Prop}
 (R:o.guard=none) (m x v:Operand) (t:TypeId) (I:o.op=Op.insert t m x v) (k e:TypeId) (M:P.underlying t=some (.map k e)) (O:P.underlying k=some .string)
 (B:Nat) (w0:World) (b:Nat) (G:Array MapEntry) (r:Nat) (h:ku B w0 b G r w) (N:a.eval m=.map (some b)) (s:ByteArray) (val:Value) (hx:a.eval x=.string s) (K:a.eval v=val)
 (U:Instr.findNow .string (.string s) G.toList 0=some none)
 (V:∀w',ku B w0 b (G.push {key:=.string s,val:=val,born:=r}) (r+1) w'->wpList P A Q rest (a.put o.dst undef) w'):wpList P A Q (o::rest) a w:=by
 refine wpList_plain R λW J=> ?_
 have E:=lS t k e b r G s val M O h.1 U
 unfold Oper.wp
 simp[execOp,I,N,hx,K,E,Result.andThen]
 exact J _ _ (V _ ⟨heap_setBlock_same h.1 _,h.2.1,iS h.2.2 h.2.1 _ _ _ h.1⟩)
theorem mj (l:By):gS l=(Lib.hasPrefix l [47,42]&&Lib.hasSuffix (Lib.trimPrefix l [47,42]) [42,47]):=by
 unfold gS Lib.trimPrefix Lib.hasPrefix Lib.hasSuffix
 match l with
 | []=>rfl
 | [a]=>
   simp[List.isPrefixOf]
 | a::b::r=>
   by_cases h:a=47/\b=42
   · obtain⟨rfl,rfl⟩:=h
     simp only[List.isPrefixOf,beq_self_eq_true,Bool.true_and,Bool.and_self,if_true,List.length_cons,List.take_succ_cons,List.take_zero,decide_true,Bool.and_true,List.length_nil,List.drop_succ_cons,List.drop_zero]
     rw[Bool.eq_iff_iff,Bool.and_eq_true,decide_eq_true_eq,decide_eq_true_eq,List.isSuffixOf_iff_suffix]
     constructor
     · rintro⟨E,m⟩
       refine⟨r.take (r.length - 2),?_⟩
       have hd2:r.drop (r.length - 2)=[42,47]:=by
        rw[<-m,show r.length+1+1 - 2=(r.length - 2)+1+1 by omega];rfl
       rw[<-hd2,List.take_append_drop]
     · rintro⟨t,rfl⟩
       refine⟨by simp,?_⟩
       have e:(t++[42,47]).length+1+1 - 2=t.length+1+1:=by simp
       rw[e]
       simp
   · have A:List.isPrefixOf [47,42] (a::b::r)=false:=by
      rw[Bool.eq_false_iff]
      intro e
      simp only[List.isPrefixOf,Bool.and_true,Bool.and_eq_true,beq_iff_eq]at e
      exact h ⟨e.1.symm,e.2.symm⟩
     have o:decide ((a::b::r).take 2=[47,42])=false:=by
      rw[decide_eq_false_iff_not]
      intro e
      simp only[List.take_succ_cons,List.take_zero,List.cons.injEq,and_true]at e
      exact h e
     rw[A,o,Bool.and_false,Bool.false_and,Bool.false_and]
open Go.RowKit Go.Shelf
attribute [local go_sem] Oper.semAt_some
def vM (W:World)(m:Nat):Option Nat:=match W.cell? ⟨m,0,none⟩with
 | some v=>v.ownBlock
 | none=>none
def KpW (o:Nat)(W r:World):Prop:=∀A m T,W.heap[A]? =some (.cells m T (0,0))->A≠o->vM W o≠some A->r.heap[A]? =W.heap[A]?∧vM r o≠some A
theorem zT {o:Nat}{A B C:World}(h:KpW o A B)(k:KpW o B C):KpW o A C:=by
 intro a m T E r I
 obtain⟨G,M⟩:=h a m T E r I
 obtain⟨K,J⟩:=k a m T (G.trans E) r M
 exact⟨K.trans G,J⟩
theorem nc (r:Nat)(G:r<=1114111)(w:World):
 Calls Tryz.prog 124 #[.int .i32 (r:Nat)] w λe w'=>e=.returned (.bool (fO r))/\w=w':=by
 by_cases A:r=32
 · subst A
   go_enter Tryz.func124,Tryz.ntmps124
   go_wp2_with fail
   go_ret
   exact⟨rfl,rfl⟩
 by_cases o:r=9
 · subst o
   go_enter Tryz.func124,Tryz.ntmps124
   go_wp2_with fail
   go_ret
   exact⟨rfl,rfl⟩
 by_cases m:r=10
 · subst m
   go_enter Tryz.func124,Tryz.ntmps124
   go_wp2_with fail
   go_ret
   exact⟨rfl,rfl⟩
 have K:((r:Int)==32)=false:=beq_eq_false_iff_ne.2 (by omega)
 have J:((r:Int)==9)=false:=beq_eq_false_iff_ne.2 (by omega)
 have I:((r:Int)==10)=false:=beq_eq_false_iff_ne.2 (by omega)
 have E:Hid (fO r=false):=by unfold Hid fO;simp[A,o,m]
 clear A o m
 go_enter Tryz.func124,Tryz.ntmps124
 go_wp2_with fail
 go_ret
 rw[E.out]
 exact⟨rfl,rfl⟩
theorem mQ:∀args w,(callFunc 124 args).run Tryz.prog w=.ok (.enter 124 args) w:=enters_of Tryz.func124 (by kernel_rfl) rfl
def zp (W:World)(A:Nat)(L:List ByteArray):Prop:=∃m:Array Value,W.heap[A]? =some (.cells m 9 (0,0))/\∀(j:Nat) (s:ByteArray),L[j]? =some s->m[j]? =some (Value.string s)
theorem zp.cell {W:World}{A:Nat}{L:List ByteArray}(h:zp W A L){j:Nat}{s:ByteArray}(m:L[j]? =some s):W.cell? ⟨A,j,none⟩=some (.string s):=by
 obtain⟨E,r,o⟩:=h
 rw[dW r];exact o j s m
theorem oe (s:ByteArray)(U:s.size<=16777216)(L:List ByteArray)(K:Lib.goFieldsP fO s=L)(w:World):
 Calls Tryz.prog 123 #[.string s,.func (.func 124) #[] #[]] w λe w'=>∃A,e=.returned (.slice (some ⟨A,0,none⟩) L.length L.length)/\w.heap.size<=A/\zp w' A L/\Below w.heap.size w w':=by
 refine(Tryz.strings_FieldsFunc_grows 124 #[] mQ fO s w (by omega) ?_).mono ?_
 · intro W x hx I
   refine(nc x hx W).mono ?_
   rintro e w' ⟨rfl,rfl⟩
   exact⟨rfl,AH _ _⟩
 · rintro e w' ⟨A,rfl,M,m,I⟩
   rw[K]at m ⊢
   refine⟨A,rfl,M,?_,I⟩
   rcases m.2 with⟨R,-⟩ | ⟨g,cap,G,o,h2,O,Z,Y,V,N⟩
   · cases R
   · injection o with o;injection o with o;injection o with o
     subst o
     refine⟨G,O,λj s J=> ?_⟩
     have E:(L.map Value.string)[j]? =some (.string s):=by rw[List.getElem?_map,J];rfl
     rw[<-N,List.getElem?_take]at E
     rw[<-Array.getElem?_toList]
     by_cases r:j<L.length*1
     · rwa[if_pos r]at E
     · rw[if_neg r]at E;cases E
theorem rP (n:Nat)(hn:1<=n)(l Bw E:Nat)(s:ByteArray)(hs:s.size<=16777216)(L:List ByteArray)(hL:Lib.goFieldsP fO s=L)(ao:L.length<=16777216)(J Jx:List ByteArray->World->Prop)(W:World)(ac:AbidesFrom W.heap.size J)
 (hY:∀m x W1,J m W1->m.length<L.length->YieldAt Fence.wide (n - 1) Tryz.prog l #[.string x] W1 λe M=>
   (e=.returned (.bool true)/\J (m++[x]) M/\KpW E W1 M)\/(e=.returned (.bool false)/\Jx (m++[x]) M))
 (ap:W.cell? ⟨Bw,0,none⟩=some (.string s)) (K:W.cell? ⟨E,0,none⟩=some (.slice none 0 0)) (h0:J [] W):
 CallsIn Fence.wide n Tryz.prog 122 #[.func (.yield l) #[] #[],.pointer (some ⟨Bw,0,none⟩)] W λe M=>(∃v,e=.returned v)/\
  ((∃ys,ys=L/\J ys M)\/(∃m,m <+: L/\Jx m M)):=by
 have FC:=AF (oe s hs L hL W)
 have am:=AF K
 have al:=AF ac
 have HY:=AF hY
 have H0:=AF h0
 have ae:Hid (E<W.heap.size):=ej K
 clear ac hY h0 K hL
 refine callsIn_of_wp Tryz.func122 rfl trivial ?_ rfl
 simp only[Tryz.ntmps122,List.size_toArray,List.length_cons,List.length_nil,Nat.reduceAdd,Nat.reduceSub,Array.replicate_succ,Array.replicate_zero,List.push_toArray,List.append_toArray,List.nil_append,List.cons_append]
 gi_wp2_with fail
 refine⟨trivial,?_⟩
 refine(callsIn_wide.2 FC.out).mono ?_
 rintro e w1 ⟨A,rfl,hA,o,hb⟩
 have ai:=AF (al.out _ _ _ none H0.out (lL hb) (λr e=>by cases e))
 have aa:w1.cell? ⟨E,0,none⟩=some (.slice none 0 0):=(hb.cell (p:=⟨E,0,none⟩) ae.out).trans am.out
 have aj:Hid (A≠E):=by have:=ae.out;unfold Hid;omega
 have G:Hid (vM w1 E≠some A):=by unfold Hid vM;rw[aa];simp[Value.ownBlock]
 have ak:=AF o
 clear o hb aa FC
 gi_wp2_with fail
 gi_loopw [8] (λi wr=>∃(k:Nat),i=.int .i64 k/\k<=L.length/\Hid (J (L.take k) wr)/\Hid (zp wr A L)/\Hid (vM wr E≠some A)) (λi _=>L.length - (intOf i).toNat)
 case atStart=>exact⟨0,rfl,Nat.zero_le _,ai,ak,G⟩
 case round=>
  obtain⟨k,rfl,hk,hJ,V,G⟩:=hrel
  by_cases R:k<L.length
  · obtain⟨x,hx⟩:∃x,L[k]? =some x:=⟨_,List.getElem?_eq_getElem R⟩
    have ag:=V.out.cell hx
    have an:(k:Int)<(L.length:Int):=by omega
    have N:Hid (L.take k++[x]=L.take (k+1)):=by
     unfold Hid
     rw[List.take_add_one,hx];rfl
    obtain⟨fn,tmps,assign,body,hy,hR⟩:=HY.out _ x _ hJ.out (by rw[List.length_take];omega)
    clear hx
    gi_wp2
    refine hR.mono ?_
    rintro e w4 (⟨rfl,ad,Y⟩ | ⟨rfl,ab⟩)
    · obtain⟨af,I,Z⟩:=V.out
      obtain⟨e1,e2⟩:=Y A af _ I aj.out G.out
      have U:Hid (zp w4 A L):=⟨af,e1.trans I,Z⟩
      have O:Hid (vM w4 E≠some A):=e2
      have ah:Hid (J (L.take (k+1)) w4):=by unfold Hid;rw[<-N.out];exact ad
      clear ad Y I Z e1 e2 hR hy ag
      gi_wp2
      go_roundw
      case rel=>exact⟨k+1,by go_num,R,ah,U,O⟩
      case measure=>simp[intOf];omega
    · gi_wp2
      refine bodyPost_ret (results_none rfl _ _ _) rfl ?_
      exact⟨⟨_,rfl⟩,.inr ⟨_,by rw[N.out];exact List.take_prefix _ _,ab⟩⟩
  · obtain rfl:k=L.length:=by omega
    gi_wp2
    go_end0
    exact⟨⟨_,rfl⟩,.inl ⟨_,rfl,by have:=hJ.out;rwa[List.take_length]at this⟩⟩
theorem oU (n:Nat)(O:1<=n)(r A:Nat)(s:ByteArray)(N:s.size<=16777216)(L:List ByteArray)(U:Lib.goFieldsP fO s=L)(G:L.length<=16777216)(w:World)
 (m:w.cell? ⟨r,0,none⟩=some (.string s)) (o:w.cell? ⟨A,0,none⟩=some (.slice none 0 0)):
 SeqStopsK Fence.wide n Tryz.prog 122 #[.pointer (some ⟨r,0,none⟩)] (λx:ByteArray=>#[Value.string x]) (KpW A) (λM=>M=L) (λE=>E <+: L) L.length w:=λl J Y W K I _ R V=>
 rP n O l r A s N L U G J Y W I R ((K.cell (p:=⟨r,0,none⟩) (ej m)).trans m) ((K.cell (p:=⟨A,0,none⟩) (ej o)).trans o) V
theorem jh {F:Fence}{n:Nat}{P:Program}(w:World){I:Array Oper}{rest:List Oper}{o:Oper}{a:Act}{Q:Exit->Act->World->Prop}
 (hg:o.guard=none) (s x:Operand) (t:TypeId) (E:o.op=Op.call {callee:=Callee.builtin Builtin.append,args:=#[s,x],argTypes:=#[t,t]})
 (base:Nat) (e:TypeId) (i:TypeInfo) (z:Value) (size A:Nat) (h1:P.underlying t=some (.slice e)) (h2:P.info? e=some i) (h3:i.zero=some z) (h4:i.size=size) (h5:i.bytes=A) (h6:z.cells.size=size) (h7:0<size)
 (v:Value) (k:Nat) (N:List Value) (hs:a.eval s=v) (M:w.ownsRow base e size v k N) (V:Addr) (m c:Nat) (r:List Value) (hx:a.eval x=.slice (some V) m c) (hn:r.length=m*size)
 (hc:∀j u,r[j]? =some u->w.cell? (V.add j)=some u) (U:∀u∈r,u.oneCell'=true) (b1:k+m<=maxLen) (b2:(k+m)*A<=140737488355328) (b3:base<=w.heap.size)
 (hK:∀G w',w'.ownsRow base e size G (k+m) (N++r)->w.grownBy w' v.ownBlock->(G.ownBlock=v.ownBlock\/G.ownBlock=some w.heap.size)->wpListIn F n P I Q rest (a.put o.dst G) w'):
 wpListIn F n P I Q (o::rest) a w:=by
 refine wpListIn_plain hg λK R=> ?_
 obtain⟨G,w',J,Z,Y,-,W⟩:=run_append_own_at (P:=P) w base t o.type e i z size A h1 h2 h3 h4 h5 h6 h7 v k N M V m c r hn hc U b1 b2 b3
 unfold Oper.wpIn
 refine⟨?_,?_⟩
 · simp[Oper.about,E,resolve,Target.leads,Sem.run_pure]
 · rw[Oper.semAt_plain F _ _ (by rw[E];intro c O;cases O)]
   simp[execOp,E,resolve,invoke,builtin,hs,hx,J,Result.andThen]
   exact R _ _ (hK G w' Z Y W)
theorem xl:(Tryz.prog.info? 9).map (λi=>(i.zero,i.size,i.bytes))=some (some (.string ⟨#[]⟩),1,16):=by kernel_rfl
theorem xk {W w1:World}{r N k m:Nat}{v o:Value}{T:TypeId}{U R:List Value}{G:Obj}(V:Boxed W r T v)(O:W.ownsRow N 9 1 v k U)(J:w1.ownsRow N 9 1 o m R)(E:(W.alloc G).grownBy w1 v.ownBlock)
 (M:o.ownBlock=v.ownBlock\/o.ownBlock=some (W.alloc G).heap.size) (Z:Boxed (w1.setCell ⟨r,0,none⟩ o) r T o):KpW r W (w1.setCell ⟨r,0,none⟩ o):=by
 intro A aa T' h1 h2 I
 have hA:=dX h1
 have Y:W.cell? ⟨r,0,none⟩=some v:=V.cell
 have K:(w1.setCell ⟨r,0,none⟩ o).cell? ⟨r,0,none⟩=some o:=Z.cell
 unfold vM at I ⊢
 rw[Y]at I
 rw[K]
 refine⟨?_,?_⟩
 · rw[Below.heap_setCell _ _ _ _ (λe=>h2 e)]
   exact(E.block A (by simp;omega) (λe=>I e.symm)).trans (Below.heap_alloc _ _ _ hA)
 · rcases M with h | h
   · show o.ownBlock≠some A
     rw[h];exact I
   · show o.ownBlock≠some A
     rw[h];simp;omega
theorem oC (n:Nat)(hn:3<=n)(I:Nat)(s:ByteArray)(hs:s.size<=16777216)(L:List ByteArray)(hL:Lib.goFieldsP fO s=L)(ag:L.length<=16777216)(w:World)(V:w.cell? ⟨I,0,none⟩=some (.string s)):
 CallsIn Fence.wide n Tryz.prog 121 #[.slice none 0 0,.func (.func 122) #[] #[.pointer (some ⟨I,0,none⟩)]] w λe W'=>∃v,e=.returned v/\W'.ownsRow w.heap.size 9 1 v L.length (L.map Value.string)/\Below w.heap.size w W':=by
 have h1:1<=n:=by omega
 obtain⟨i0,hi,aa,Z,Y⟩:=info_parts xl
 have U:=ej V
 refine callsIn_of_wp_marks Tryz.func121 rfl trivial ?_ rfl
 simp only[Tryz.ntmps121,List.size_toArray,List.length_cons,List.length_nil,Nat.reduceAdd,Nat.reduceSub,Array.replicate_succ,Array.replicate_zero,List.push_toArray,List.append_toArray,List.nil_append,List.cons_append]
 gi_wp2
 have bO:=Boxed.new w 28 (.slice none 0 0)
 have ah:Below w.heap.size w (w.alloc (.cells #[.slice none 0 0] 28)):=(AH _ w).alloc (AG _) _
 refine wpIn_rangeFunc_ownF rfl h1 (gf:=122) (lb:=#[.pointer (some ⟨I,0,none⟩)]) rfl trivial (enters_of Tryz.func122 (by kernel_rfl) rfl)
  (oU (n - 1) (by omega) I w.heap.size s hs L hL ag (w.alloc (.cells #[.slice none 0 0] 28)) ((World.cell?_alloc_old w _ _ (Nat.ne_of_lt U)).trans V) bO.cell) zT
  ?keeps (AH _ _) (λ_=>rfl)
  (λm W=>(∃v,Boxed W w.heap.size 28 v/\W.ownsRow w.heap.size 9 1 v m.length (m.map Value.string)/\True)/\Below w.heap.size w W)
  (λ_ _ _=>False)
  (OwnFrom.and (Own.from (holdsRow_own (β:=List ByteArray) w.heap.size w.heap.size 28 9 1 (λm=>m.length) (λm=>m.map Value.string) (λ_ _=>True)) _) (ownFrom_below (AG _) (by simp)))
  (λ_ _ _ _ _ hs _ _=>hs)
  ⟨⟨_,bO,World.ownsRow_nil _ _ _ _,trivial⟩,ah⟩
  (λx=>{tmps:=#[.slice none 0 0,.func (.func 122) #[] #[.pointer (some ⟨I,0,none⟩)],.pointer (some ⟨w.heap.size,0,none⟩),undef,.slice none 0 0,.string x,.func (.func 122) #[] #[.pointer (some ⟨I,0,none⟩)],.string x,undef,undef,undef,undef,undef],defers:=[]}) ?assign ?body ?done ?stop
 case keeps=>
  intro W l o o' hl hW ho _ A am T hA h2 h3
  have ac:A≠l:=by rintro rfl;rw[hA]at hW;cases hW;cases ho
  have O:w.heap.size≠l:=by simp at hl;omega
  have e1:(W.putObj l o').heap[A]? =W.heap[A]? :=World.putObj_heap_other ac
  have e2:(W.putObj l o').heap[w.heap.size]? =W.heap[w.heap.size]? :=World.putObj_heap_other O
  refine⟨e1,?_⟩
  unfold vM at h3 ⊢
  rw[World.cell?_of_block (w:=W) e2];exact h3
 case assign=>
  intro l x W K R
  gi_wp2
  exact R
 case body=>
  rintro l m x W ⟨⟨v,N,r,-⟩,hB⟩ aj
  have hc:=N.cell
  gi_wp2_with (gi_at_builtin;refine jh _ rfl _ _ 28 rfl w.heap.size 9 i0 (.string ⟨#[]⟩) 1 16 Tryz.underlying28 hi aa Z Y rfl (by decide) _ _ _ rfl (r.alloc _) ⟨W.heap.size,0,none⟩ 1 1 [.string x] rfl rfl (cell_one_new _ _ _) (by simp[Value.oneCell']) (by unfold maxLen;omega) (by omega) (by have:=hB.size;simp;omega) ?_;intro v' w1 E G af;obtain⟨g',ai,rfl⟩:=ownsRow_succ E;obtain⟨M,J,ab,ad,ae⟩:=N.appended (by decide) r hB.size (AG _) E G;have al:=M.cell;have ak:=M.frozen)
  exact⟨ad,xk N r E G af J,⟨_,J,by simpa using ab,trivial⟩,hB.trans ae⟩
 case done=>
  rintro D ys W hD rfl ⟨⟨v,N,r,-⟩,hB⟩ R
  have hc:=N.cell
  gi_wp2
  refine⟨by simp,.inl ⟨_,_,rfl,run_takeDeferred R,?_⟩⟩
  exact⟨_,results_tmp rfl _ _ _,v,rfl,ownsRow_putObj r _ R rfl,hB.trans (belowK_b (w:=w) (AG _) W D _ _ (by simp at hD;omega) R rfl rfl)⟩
 case stop=>
  rintro D c m W hD _ h _
  exact h.elim
theorem uq (w:World)(s:ByteArray):
 Calls Tryz.prog 81 #[.string s] w λe w'=>e=.returned (.func (.func 122) #[] #[.pointer (some ⟨w.heap.size,0,none⟩)])/\w.alloc (.cells #[.string s] 9)=w':=by
 have m:∀(fn:Fn) (first cap:Array Value) (w:World),(Instr.makeFunc fn first cap).run Tryz.prog w=.ok (.func fn first cap) w:=λ_ _ _ _=>rfl
 go_enter Tryz.func81,Tryz.ntmps81
 go_wp2_with fail
 go_ret
 exact⟨rfl,rfl⟩
def zm (w:World)(L:List ByteArray)(e:Ending)(w':World):Prop:=∃v,e=.returned v/\Strs (λb=>w.heap.size<=b/\b<w'.heap.size/\UnF w' b) w' v L/\Below w.heap.size w w'
theorem uz {w:World}{B n:Nat}{v:Value}{L:List ByteArray}(h:w.ownsRow B 9 1 v n (L.map Value.string))(J:n=L.length):Strs (λb=>B<=b/\b<w.heap.size/\UnF w b) w v L:=by
 subst J
 by_cases G:L=[]
 · subst G
   rcases h.2 with⟨rfl,-⟩ | ⟨g,cap,E,rfl,hB,R,A,r,-⟩
   · exact Strs.nil _ _
   · exact⟨_,_,rfl,A,r,λh=>absurd rfl h⟩
 · obtain⟨g,c,rfl,hB,o,A,r,O⟩:=ownsRow.elems h (List.length_pos_iff.2 G)
   have I:UnF w g:=by
    rcases h.2 with⟨h,-⟩ | ⟨U,cap,E,N,-,M,-⟩
    · cases h
    · injection N with m;injection m with m;injection m with m
      subst m
      exact dY M
   refine⟨_,_,rfl,A,r,λ_=>⟨g,0,rfl,⟨hB,o,I⟩,λi s K=> ?_⟩⟩
   rw[Nat.zero_add]
   exact O i _ (by rw[List.getElem?_map,K];rfl)
theorem mV (A:Nat)(s:ByteArray)(J:s.size<=16777216)(L:List ByteArray)(G:Lib.goFieldsP fO s=L)(o:L.length<=16777216)(w:World)(r:w.cell? ⟨A,0,none⟩=some (.string s)):
 Calls Tryz.prog 80 #[.func (.func 122) #[] #[.pointer (some ⟨A,0,none⟩)]] w (zm w L):=by
 have I:=AF ((callsIn_wide (n:=3)).1 (oC 3 (AG 3) A s J L G o w r))
 clear G
 go_enter Tryz.func80,Tryz.ntmps80
 go_wp2_with fail
 refine I.out.mono ?_
 rintro e w1 ⟨v,rfl,m,E⟩
 have K:=AF m
 have M:=AF E
 clear m E I
 go_wp2_with fail
 go_ret
 exact⟨v,rfl,uz K.out rfl,M.out⟩
theorem qL (l:By):(fG l).length<=l.length+1:=Nat.le_trans (List.length_filter_le _ _) (lR _ _)
theorem px (s:ByteArray):Lib.goFieldsP fO s=(fG (bl s)).map mkB:=by
 rw[<-n9,List.map_map]
 conv=>lhs;rw[<-List.map_id (Lib.goFieldsP fO s)]
 apply List.map_congr_left
 intro x _;exact(gW x).symm
theorem xn:(Tryz.prog.info? 98).map (λi=>(i.zero,i.size,i.bytes))=some (some (.pointer none),1,8):=by kernel_rfl
theorem nD (b:Nat)(m:List Nat):vK (b::m)=vK m++[.pointer (some ⟨b,0,none⟩)]:=by simp[vK]
theorem tW.block {B:Nat}{m:Nat->Nat}{w:World}{c:Nat}{T:TypeId}{r:Nat}{v:Value}{n:Nat}{cs:List Value}(h:tW B m w c T r v n cs):∀g,v.ownBlock=some g->B<=g/\g<w.heap.size/\m g=c:=λg o=>
 ⟨(World.ownsRow.lt h.1 g o).1,(World.ownsRow.lt h.1 g o).2,h.2 g o⟩
theorem mG {w:World}{B n r:Nat}{e:TypeId}{v:Value}{o:List Value}(h:w.ownsRow B e r v n o)(b j:Nat)(u:Value)(E:v.ownBlock≠some b):(w.setCell ⟨b,j,none⟩ u).ownsRow B e r v n o:=by
 refine⟨h.1,?_⟩
 rcases h.2 with h | ⟨g,cap,m,A,J,I,G⟩
 · exact .inl h
 · refine .inr ⟨g,cap,m,A,J,?_,G⟩
   rw[Below.heap_setCell _ _ _ _ (λe=>by
    have K:g=b:=e
    exact E (by rw[A,←K];rfl))]
   exact I
theorem jM {m:Nat->Nat}{w w2:World}{bx c K J j:Nat}{v:Value}{u:Value}(E:m bx=K)(N:K≠c)(o:∀g,v.ownBlock=some g->m g=c)(A:w.heap.size<=w2.heap.size)
 (G:∀b,b<w.heap.size->some b≠v.ownBlock->w2.heap[b]? =w.heap[b]?) (I:v.ownBlock=some J\/w.heap.size<=J):
 gA (λk=>k≠K/\k≠c) m (dye m J c) w (w2.setCell ⟨bx,j,none⟩ u):=by
 refine⟨by simp[World.setCell];exact A,λb O r=>⟨?_,?_⟩⟩
 · unfold dye
   rw[if_neg]
   rintro rfl
   rcases I with M | M
   · exact r.2 (o _ M)
   · omega
 · rw[Below.heap_setCell _ _ _ _ (λe=>by have R:b=bx:=e;rw[R]at r;exact r.1 E)]
   exact G b O (λe=>r.2 (o b e.symm))
theorem lc {m:Nat->Nat}(g c:Nat):dye m g c g=c:=if_pos rfl
theorem jb {m:Nat->Nat}{g c b:Nat}(h:b≠g):dye m g c b=m b:=if_neg h
theorem RdG.pushed {B q bx G:Nat}{s:St}{A:Nat->Nat}{W:List Nat}{V dv cv:Value}{w w2:World}(o:RdG B q bx s A W V dv cv w){f:Fr}{Y:Value}
 (af:B<=G) (N:A G=5+2*(s.rest.length+1)) (K:w.heap[G]? =some (.cells (frCells f Y (.slice none 0 0) (.slice none 0 0)) 100 (0,0))) (ae:Strs (Ok A w) w Y (f.names.map mkB)) (ag:f.fst=.nil) (M:f.kids=.nil) (ac:s.rest.length+1<=64)
 (aa:w.heap.size<=w2.heap.size) (R:∀b,b<w.heap.size->some b≠V.ownBlock->w2.heap[b]? =w.heap[b]?) {r m:Nat}
 (E:w2.ownsRow B 98 1 (.slice (some ⟨r,0,none⟩) (s.rest.length+1+1) m) (s.rest.length+1+1) (vK W++[.pointer (some ⟨G,0,none⟩)])) (U:V.ownBlock=some r\/w.heap.size<=r):
 RdM B q bx {s with top:=f,rest:=s.top::s.rest} (w2.setCell ⟨bx,0,none⟩ (.slice (some ⟨r,0,none⟩) (s.rest.length+1+1) m)):=by
 have ab:=dX K
 have O:=dX o.hx
 have I:=jM (j:=0) (u:=.slice (some ⟨r,0,none⟩) (s.rest.length+1+1) m) o.cx (by decide:(1:Nat)≠2) o.st.2 aa R U
 have Z:w2.heap[bx]? =some (.cells (ij V dv s.many cv) 103 (0,0)):=(R bx O (λe=>by have:=o.st.2 bx e.symm;rw[o.cx]at this;cases this)).trans o.hx
 have J:r≠bx:=by
  rintro rfl
  rcases U with h1 | h1
  · have:=o.st.2 _ h1;rw[o.cx]at this;cases this
  · omega
 have hF:FrM B (dye A r 2) (w2.setCell ⟨bx,0,none⟩ (.slice (some ⟨r,0,none⟩) (s.rest.length+1+1) m)) q (s.rest.length+1) G f:=by
  have hk:=I.2 G ab (by rw[N];exact⟨by omega,by omega⟩)
  refine⟨af,hk.1.trans N,by rw[M];exact Nat.zero_le _,Y,_,_,hk.2.trans K,I.strs ⟨by decide,by decide⟩ ae,?_,?_⟩
  · rw[ag];exact d8.nil _ _
  · rw[M];exact oO.nil _ _ _ _
 exact⟨dye A r 2,G::W,.slice (some ⟨r,0,none⟩) (s.rest.length+1+1) m,dv,cv,{
  bb:=o.bb
  cx:=(jb (Ne.symm J)).trans o.cx
  hx:=d7 (j:=0) Z (.slice (some ⟨r,0,none⟩) (s.rest.length+1+1) m)
  st:=⟨by rw[nD];exact mG E _ _ _ (λe=>J (by simpa[Value.ownBlock]using e)),λg ad=>by
   have:r=g:=by simpa[Value.ownBlock]using ad
   rw[<-this];exact lc _ _⟩
  fr:=⟨G,W,rfl,hF,o.fr.same I ⟨by decide,by decide⟩ (AG _) _ _ (λi _=>⟨⟨by omega,by omega⟩,⟨by omega,by omega⟩⟩)⟩
  df:=o.df.same I ⟨by decide,by decide⟩ ⟨by decide,by decide⟩
  cl:=o.cl.same I ⟨by decide,by decide⟩
  l1:=o.l1
  l2:=ac
  l3:=o.l3
  l4:=o.l4
  hB:=Nat.le_trans o.hB I.1
  ol:=λb hb=>(jb (by have:=sB E;omega)).trans (o.ol b hb)}⟩
theorem lA (B q bx I at_:Nat)(ap:at_<=16777216)(s:St)(O:Nat->Nat)(bs:List Nat)(sv dv cv vn:Value)(f:Fr)(w:World)(E:RdG B q bx s O bs sv dv cv w)
 (af:B<=I) (aj:O I=5+2*(s.rest.length+1)) (N:w.heap[I]? =some (.cells (frCells f vn (.slice none 0 0) (.slice none 0 0)) 100 (0,0))) (M:Strs (Ok O w) w vn (f.names.map mkB)) (ah:f.fst=.nil) (ag:f.kids=.nil):
 Calls Tryz.prog 125 #[.pointer (some ⟨bx,0,none⟩),.pointer (some ⟨I,0,none⟩),.int .i64 (at_:Nat)] w (ew B q bx w (s.begin f at_)):=by
 obtain⟨c0,c1,c2,c3,c4,fz⟩:=E.cells
 obtain⟨ar,au,g,c,he,hl,rfl,ao,an,ai,-,-,-⟩:=E.top
 have hm:=E.l2
 have Z:=AF E
 by_cases K:64<s.rest.length+1
 · have U:(64:Int)<((s.rest.length+1:Nat):Int):=by omega
   have HE:Hid (s.begin f at_=.err 193 at_):=by unfold Hid St.begin;rw[if_pos K]
   clear E K N M hm
   go_enter Tryz.func125,Tryz.ntmps125
   go_wp2_with fail
   rw[HE.out]
   exact⟨rfl,AH _ _,rfl⟩
 · have U:¬(64:Int)<((s.rest.length+1:Nat):Int):=by omega
   have HE:Hid (s.begin f at_=.ok {s with top:=f,rest:=s.top::s.rest}):=by unfold Hid St.begin;rw[if_neg K]
   obtain⟨i0,hi,ac,ab,aa⟩:=info_parts xn
   have o:=E.st.1
   have ak:=dX E.hx
   have aq:B<=w.heap.size+1:=by have:=E.hB;omega
   have r:∀j u,([.pointer (some ⟨I,0,none⟩)]:List Value)[j]? =some u->(w.alloc (.cells #[.pointer (some ⟨I,0,none⟩)] 98)).cell? ((⟨w.heap.size,0,none⟩:Addr).add j)=some u:=by
    intro j u hj
    have hb:=heap_alloc_new w (.cells #[.pointer (some ⟨I,0,none⟩)] 98)
    have W:(⟨w.heap.size,0,none⟩:Addr).add j=⟨w.heap.size,j,none⟩:=by unfold Addr.add;split <;> simp_all
    rw[W,dW hb]
    simpa using hj
   have ad:some bx≠(Value.slice (some ⟨g,0,none⟩) (s.rest.length+1) c).ownBlock:=λe=>by
    have e2:bx=g:=by simpa[Value.ownBlock]using e
    have:=E.cx;rw[e2,ai]at this;cases this
   have ae:s.rest.length+1+1<=maxLen:=by unfold maxLen;omega
   go_enter Tryz.func125,Tryz.ntmps125
   go_wp2_with (at_builtin;refine wpList_append_lies _ rfl _ _ _ rfl B 98 i0 _ 1 8 Tryz.underlying101 hi ac ab aa rfl (by decide) _ (s.rest.length+1) (vK bs) (by rfl) (World.ownsRow.alloc o _) ⟨w.heap.size,0,none⟩ 1 1 [.pointer (some ⟨I,0,none⟩)] (by rfl) (by rfl) r (by simp[Value.oneCell']) (by decide) ae (by omega) (by simp;omega) (w.heap.size+1) (by simp) ?_;intro g2 Y w2 m A V am;have J:=(A.block bx (by simp;omega) ad).trans ((Below.heap_alloc _ _ _ ak).trans Z.out.hx);have d0:w2.cell? ⟨bx,0,none⟩=some (.slice (some ⟨g,0,none⟩) (s.rest.length+1) c):=(by rw[dW J];rfl);have dz:=dY J 0)
   have R:w.heap.size<=w2.heap.size:=by have:=A.size;simp at this;omega
   have G:∀b,b<w.heap.size->some b≠(Value.slice (some ⟨g,0,none⟩) (s.rest.length+1) c).ownBlock->w2.heap[b]? =w.heap[b]? :=λb hb hn=>(A.block b (by simp;omega) hn).trans (Below.heap_alloc _ _ _ hb)
   have hF:=AF (Z.out.pushed af aj N M ah ag (by omega) R G m (V.imp id (λe=>by omega)))
   have al:=AF ((((AH B w).alloc Z.out.hB _).grown A (by simp;omega) (λk hk=>(World.ownsRow.lt o k hk).1)).setCell (p:=⟨bx,0,none⟩) Z.out.bb (.slice (some ⟨g2,0,none⟩) (s.rest.length+1+1) Y))
   clear A J G m N M o r E
   go_end0
   rw[HE.out]
   exact⟨al.out,rfl,hF.out⟩
theorem pG (B q bx:Nat)(s:St)(at_:Nat)(r:at_<=16777216)(w:World)(h:RdM B q bx s w):
 Calls Tryz.prog 76 #[.pointer (some ⟨bx,0,none⟩),.int .i64 (at_:Nat)] w (ew B q bx w (s.count at_)):=by
 obtain⟨A,K,G,I,J,o⟩:=h
 obtain⟨-,-,-,c3,-,fz⟩:=o.cells
 refine(lp B bx at_ s.many o.l1 r w c3 (fz 3)).mono ?_
 rintro e w' ⟨rfl,rfl⟩
 have E:Below B w (w.setCell ⟨bx,3,none⟩ (.int .i64 ((s.many+1:Nat):Int))):=(AH _ w).setCell o.bb _
 unfold St.count
 by_cases m:1024<s.many+1
 · rw[if_pos m,if_pos m];exact⟨E,rfl⟩
 · rw[if_neg m,if_neg m];exact⟨E,rfl,A,K,G,I,J,o.counted (by omega)⟩
def gv (m:Nat->Nat)(n b:Nat):Nat:=if b<n then m b else 0
theorem gp {B:Nat}{m:Nat->Nat}{w w':World}(o:Below w.heap.size w w'):gA (λ_=>True) m (gv m w.heap.size) w w':=
 ⟨o.size,λb h _=>⟨if_pos h,o.block b h⟩⟩
theorem iC {m:Nat->Nat}{w w':World}{b:Nat}(h:New w w' b):Ok (gv m w.heap.size) w' b:=⟨if_neg (by have:=h.1;omega),h.2⟩
theorem kN {m:Nat->Nat}(w:World)(o:Obj)(c:Nat):gA (λ_=>True) m (dye m w.heap.size c) w (w.alloc o):=
 ⟨by simp,λb h _=>⟨jb (by omega),Below.heap_alloc _ _ _ h⟩⟩
theorem ew.bind {B q bx:Nat}{w w1:World}{r:Rs St}{f:St->Rs St}{e:Ending}{w':World}(m:Below B w w1)(h:ew B q bx w1 r e w'):ew B q bx w r e w':=⟨m.trans (h.1.mono (AG _)),h.2⟩
def uW (k at_:Nat)(p:Bool×List By):Fr:=⟨k,at_,p.1,p.2,[],false,.nil,.nil⟩
theorem pM (l:By):bl (mkB l)=l:=rfl
theorem gD (B q bx:Nat)(k:Nat)(w0 x:By)(hk:(k=3/\w0=kIf)\/(k=4/\w0=eu))(hx:x.length<=16777216)(at_:Nat)(N:at_<=16777216)(s:St)(O:Nat->Nat)(bs:List Nat)(sv dv cv wv:Value)(w:World)(hg:RdG B q bx s O bs sv dv cv w)
 (ae:Sh w) (ad:Strs (Ok O w) w wv [mkB w0,mkB x]):
 Calls Tryz.prog 82 #[.pointer (some ⟨bx,0,none⟩),wv,.int .i64 (at_:Nat)] w (ew B q bx w (match kH x with
  | none=>.err 190 at_
  | some p=>(s.begin (uW k at_ p) at_).bind λs=>s.count at_)):=by
 obtain⟨a,c,rfl,h1,h2,h3⟩:=ad
 obtain⟨b,o,rfl,af,M⟩:=h3 (by simp)
 have d0:w.cell? ⟨b,o,none⟩=some (.string (mkB w0)):=M 0 _ rfl
 have d1:w.cell? ⟨b,o+1,none⟩=some (.string (mkB x)):=M 1 _ rfl
 have W:=AF (iz (mkB x) (by rw[fi];exact hx) at_ N w ae)
 rw[pM]at W
 obtain⟨X,hX⟩:∃X,mkB x=X:=⟨_,rfl⟩
 rw[hX]at d1 W
 clear hX M
 have HG:=AF hg
 have ab:Hid (B<=w.heap.size):=hg.hB
 have ag:(1:Int)<(2:Nat):=by omega
 clear hg
 have J:((mkB w0).toList==[114,97,110,103,101])=(k==4):=by rcases hk with⟨rfl,rfl⟩ | ⟨rfl,rfl⟩ <;> (rw[ByteArray.toList_eq];rfl)
 clear h3 h1
 cases hw:kH x with
 | none=>
   rw[hw]at W
   clear hw
   rcases hk with⟨rfl,rfl⟩ | ⟨rfl,rfl⟩
   all_goals
    first
    | replace J:((mkB kIf).toList==[114,97,110,103,101])=false:=J
    | replace J:((mkB eu).toList==[114,97,110,103,101])=true:=J
    go_enter Tryz.func82,Tryz.ntmps82
    go_wp2_with fail
    refine W.out.mono ?_
    rintro e w1 ⟨r,rfl⟩
    have I:=AF (r.mono ab.out)
    clear r
    go_wp2_with fail
    exact⟨rfl,I.out,rfl⟩
 | some p=>
   rw[hw]at W
   clear hw
   dsimp only
   obtain⟨F,hF⟩:∃F,uW k at_ p=F:=⟨_,rfl⟩
   rw[hF]
   have m:=AF hF
   clear hF
   rcases hk with⟨rfl,rfl⟩ | ⟨rfl,rfl⟩
   all_goals
    first
    | replace J:((mkB kIf).toList==[114,97,110,103,101])=false:=J
    | replace J:((mkB eu).toList==[114,97,110,103,101])=true:=J
    go_enter Tryz.func82,Tryz.ntmps82
    go_wp2_with fail
    refine W.out.mono ?_
    rintro e w1 ⟨r,v,rfl,E⟩
    obtain⟨L,hL⟩:∃L,p.2.map mkB=L:=⟨_,rfl⟩
    rw[hL]at E
    have HL:=AF hL
    clear hL
    have ⟨va,vc,hv,_⟩:=E
    subst hv
    have Z:Strs (Ok (gv O w.heap.size) w1) w1 (.slice va L.length vc) L:=E.mono (λb hb=>iC hb)
    have G:=HG.out.same (gp (B:=B) r) (λ_=>trivial) (AG q)
    have I:=AF (r.mono ab.out)
    have K:Hid (B<=w1.heap.size):=G.hB
    have BG:=AF (λ(o:Obj) (f:Fr) (h:o=.cells (frCells f (.slice va L.length vc) (.slice none 0 0) (.slice none 0 0)) 100 (0,0)) (hf:f.names.map mkB=L) (h1:f.fst=.nil) (h2:f.kids=.nil)=>
     lA B q bx w1.heap.size at_ N s _ bs sv dv cv (.slice va L.length vc) f (w1.alloc o) (G.same (kN w1 o (5+2*(s.rest.length+1))) (λ_=>trivial) (AG q)) G.hB (lc _ _)
      (by rw[h];exact heap_alloc_new w1 _) (by rw[hf];exact(kN w1 o (5+2*(s.rest.length+1))).strs trivial Z) h1 h2)
    clear r E Z G af d0
    cases V:s.begin F at_ with
    | err ee ii=>
      go_wp2_with fail
      refine(BG.out _ F (by rw[<-m.out];rfl) (by rw[<-m.out];exact HL.out) (by rw[<-m.out];rfl) (by rw[<-m.out];rfl)).mono ?_
      rw[V]
      rintro e w3 ⟨A,rfl⟩
      have R:=AF ((I.out.alloc K.out _).trans A)
      have HE:Hid ((s.begin F at_).bind (λs=>s.count at_)=.err ee ii):=by unfold Hid;rw[V];rfl
      clear A V
      go_wp2_with fail
      rw[HE.out]
      exact⟨rfl,R.out,rfl⟩
    | ok s2=>
      go_wp2_with fail
      refine(BG.out _ F (by rw[<-m.out];rfl) (by rw[<-m.out];exact HL.out) (by rw[<-m.out];rfl) (by rw[<-m.out];rfl)).mono ?_
      rw[V]
      rintro e w3 ⟨A,rfl,Y⟩
      have R:=AF ((I.out.alloc K.out _).trans A)
      have CC:=AF (pG B q bx s2 at_ N w3 Y)
      have HE:Hid ((s.begin F at_).bind (λs=>s.count at_)=s2.count at_):=by unfold Hid;rw[V];rfl
      clear A V Y
      go_wp2_with fail
      refine CC.out.mono ?_
      rintro e w4 ⟨aa,h4⟩
      have ac:=AF (R.out.trans aa)
      clear aa CC
      cases U:s2.count at_ with
      | ok s3=>
        rw[U]at h4
        obtain⟨rfl,h5⟩:=h4
        have H5:=AF h5
        have HC:=AF U
        clear h5 U
        go_wp2_with fail
        go_end0
        rw[HE.out,HC.out]
        exact⟨ac.out,rfl,H5.out⟩
      | err ee ii=>
        rw[U]at h4
        have h5:e=.panicked [{v:=.iface 84 (.agg #[.int .i64 (ee:Nat),.int .i64 (ii:Nat)]),recovered:=false}]:=h4
        subst h5
        have HC:=AF U
        clear h4 U
        go_wp2_with fail
        rw[HE.out,HC.out]
        exact⟨rfl,ac.out,rfl⟩
end Go.Proofs.YtepcpgdfbaklfaaGreatDoor
