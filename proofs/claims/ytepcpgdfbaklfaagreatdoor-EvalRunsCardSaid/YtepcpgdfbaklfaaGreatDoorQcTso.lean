/- The contract of tmpl.source. The condition: the template's sizes take at most 2 to the 24th bytes. -/
import Derived.Test.YtepcpgdfbaklfaaGreatDoorQcTw6
import Derived.Test.YtepcpgdfbaklfaaGreatDoorQcTrc
import Derived.Test.YtepcpgdfbaklfaaGreatDoorQcLibv
import Derived.Maps.OwnOps
import Derived.Maps.Views
set_option maxRecDepth 100000
set_option maxHeartbeats 8000000
set_option linter.unusedSimpArgs false
set_option linter.unusedVariables false
namespace Go.Proofs.YtepcpgdfbaklfaaGreatDoor
open Go.RowKit Go.Shelf
attribute [local go_sem ↓] Go.wp_at_zero Go.wp_at_succ
structure TmZ (t:Tm):Prop where
 main:t.main.sm
 defs:∀d∈t.defs,d.name.size<=16777216/\d.kids.sm
 sum:t.main.cnt+(t.defs.map λd=>d.kids.cnt).sum<=16000000
 len:t.defs.length<=16777216
 src:t.src.length<=16777216
theorem iX {l:List Df}{d:Df}(h:d∈l):d.kids.cnt<=(l.map λd=>d.kids.cnt).sum:=by
 induction l with
 | nil=>cases h
 | cons x l m=>
   simp only[List.map_cons,List.sum_cons]
   rcases List.mem_cons.1 h with rfl | h
   · omega
   · have:=m h;omega
theorem lh (l:List Df)(k:Nat)(d:Df)(h:l[k]? =some d):(l.drop k).flatMap kq=kq d++(l.drop (k+1)).flatMap kq:=by
 have m:=(List.getElem?_eq_some_iff.1 h).1
 rw[List.drop_eq_getElem_cons m]
 have:l[k]=d:=(List.getElem?_eq_some_iff.1 h).2
 rw[this];rfl
theorem nu (t:Tm)(hz:TmZ t)(vm vd:Value)(w:World)(hp:d8 (·<w.heap.size) w vm t.main)(hd:fU (·<w.heap.size) w vd t.defs):
 Calls Tryz.prog 40 #[.agg #[vm,vd]] w λe w'=>e=.returned (.string (mkB t.src))/\Below w.heap.size w w':=by
 obtain⟨main,defs⟩:=t
 obtain⟨z1,z2,z3,z4,z5⟩:=hz
 dsimp only at z1 z2 z3 z4 hp hd
 obtain⟨M,K,rfl,m1,m2,m3⟩:=hp
 obtain⟨a,c,rfl,h1,h2,h3⟩:=hd
 have aI:c<=9223372036854775807:=by unfold maxLen at h2;exact h2
 obtain⟨b,o,m⟩:∃b o,(defs≠[]->a=some ⟨b,o,none⟩/\b<w.heap.size/\hZ (·<w.heap.size) w defs b o):=by
  by_cases hn:defs=[]
  · exact⟨0,0,λh=>absurd hn h⟩
  · obtain⟨b,o,h⟩:=h3 hn
    exact⟨b,o,λ_=>h⟩
 have HR:=AF m
 have HM:Hid (d8 (·<w.heap.size) w (.slice M main.len K) main):=⟨M,K,rfl,m1,m2,m3⟩
 have HT:Hid (Tm.src ⟨main,defs⟩=defs.flatMap kq++main.src false):=rfl
 have aj:=AF z5
 have ax:=AF z2
 have ay:=AF z1
 have ar:main.cnt<=16777216:=by omega
 have aB:=AF z3
 have aG:Hid (Below w.heap.size w ((w.alloc (.cells #[.slice M main.len K,.slice a defs.length c] 25)).alloc (.cells #[.pointer none,.slice none 0 0] 136))):=((AH _ w).alloc (AG _) _).alloc (by simp) _
 have ao:Hid (Bdf (w.heap.size+1) (w.heap.size+1) [] ((w.alloc (.cells #[.slice M main.len K,.slice a defs.length c] 25)).alloc (.cells #[.pointer none,.slice none 0 0] 136))):=by
  have:=Bdf.fresh (w.alloc (.cells #[.slice M main.len K,.slice a defs.length c] 25))
  rwa[show(w.alloc (.cells #[.slice M main.len K,.slice a defs.length c] 25)).heap.size=w.heap.size+1 by simp]at this
 have az:Hid (((w.alloc (.cells #[.slice M main.len K,.slice a defs.length c] 25)).alloc (.cells #[.pointer none,.slice none 0 0] 136)).heap[w.heap.size]? =some (.cells #[.slice M main.len K,.slice a defs.length c] 25 (0,0))):=by
  unfold Hid;rw[Below.heap_alloc _ _ _ (by simp)];exact heap_alloc_new w _
 have aC:Hid (((w.alloc (.cells #[.slice M main.len K,.slice a defs.length c] 25)).alloc (.cells #[.pointer none,.slice none 0 0] 136)).heap.size=w.heap.size+2):=by unfold Hid;simp
 clear h3 m m3 z1 z2 z3 z5
 go_enter Tryz.func40,Tryz.ntmps40
 go_wp2_with fail
 generalize hW:World.alloc (World.alloc w _) _=W1 at*
 clear hW
 go_loopw [9] (λi wr=>∃(k:Nat) (A:By),i=.int .i64 k/\k<=defs.length/\Hid (Bdf (w.heap.size+1) (w.heap.size+1) A wr)/\Hid (Wr (w.heap.size+1) (w.heap.size+1) W1 wr)/\Hid (A++(defs.drop k).flatMap kq++main.src false=Tm.src ⟨main,defs⟩)) (λi _=>defs.length - (intOf i).toNat)
 case atStart=>exact⟨0,[],rfl,Nat.zero_le _,ao,Wr.refl _ _ _,by unfold Hid;rw[HT.out];rfl⟩
 case round=>
  obtain⟨k,A,rfl,hk,ap,R,HE⟩:=hrel
  have ac:=AF (aG.out.trans (R.out.1.mono (Nat.le_succ _)))
  have aJ:w.heap.size+2<=wr.heap.size:=by have:=R.out.size;have:=aC.out;omega
  have x0:wr.cell? ⟨w.heap.size,0,none⟩=some (.slice M main.len K):=by rw[dW ((R.out.1.block _ (by omega)).trans az.out)];rfl
  by_cases O:k<defs.length
  · have aH:(k:Int)<(defs.length:Int):=by omega
    obtain⟨d,I⟩:∃d,defs[k]? =some d:=⟨_,List.getElem?_eq_getElem O⟩
    obtain⟨rfl,au,m⟩:=HR.out (by intro e;rw[e]at O;simp at O)
    obtain⟨g0,g1,v,g2,aq⟩:=hZ.at _ _ _ _ _ I (m.kept (eL.of_below ac.out) _ _ _ au)
    have Z:d∈defs:=List.mem_of_getElem? I
    obtain⟨zn,zk⟩:=ax.out d Z
    have aL:=iX Z
    have ah:d.kids.cnt<=16777216:=by have:=aB.out;omega
    have aa:Hid (A.length+(kq d).length<=16777216):=by
     have h1:=aj.out
     have h2:=congrArg List.length HE.out
     rw[lh _ _ _ I]at h2
     simp only[List.length_append]at h2
     unfold Hid;omega
    have V:Hid ((A++kq d)++(defs.drop (k+1)).flatMap kq++main.src false=Tm.src ⟨main,defs⟩):=by
     have:=HE.out
     rw[lh _ _ _ I]at this
     unfold Hid;rw[<-this];simp
    obtain⟨Y,W,rfl,d1,d2,d3⟩:=aq
    have aD:Hid (d8 (·<w.heap.size) wr (.slice Y d.kids.len W) d.kids):=⟨Y,W,rfl,d1,d2,d3⟩
    have aw:=AF zk
    have N:Hid (Wr (w.heap.size+1) (w.heap.size+1) wr (wr.alloc (.cells #[.string d.name,.int .i64 d.pos,.slice Y d.kids.len W] 70))):=Wr.alloc wr _ (by omega)
    have an:=AF (ap.out.below ((AH _ wr).alloc (AG _) (.cells #[.string d.name,.int .i64 d.pos,.slice Y d.kids.len W] 70)))
    have al:Hid ((wr.alloc (.cells #[.string d.name,.int .i64 d.pos,.slice Y d.kids.len W] 70)).heap[wr.heap.size]? =some (.cells #[.string d.name,.int .i64 d.pos,.slice Y d.kids.len W] 70 (0,0))):=heap_alloc_new wr _
    clear I m d3 zk O x0 Z
    go_upto_region 5 with(fail)
    clear g0 g1 g2
    generalize av:World.alloc wr _=W2 at*
    clear av
    have q0:W2.cell? ⟨wr.heap.size,0,none⟩=some (.string d.name):=by rw[dW al.out];rfl
    have HN:Hid (((⟨#[123,123,100,101,102,105,110,101,32]⟩++d.name)++⟨#[125,125]⟩:ByteArray).size=d.name.size+11):=by
     unfold Hid;rw[ByteArray.size_append,ByteArray.size_append]
     have:(⟨#[123,123,100,101,102,105,110,101,32]⟩:ByteArray).size=9:=rfl
     have:(⟨#[125,125]⟩:ByteArray).size=2:=rfl
     omega
    have ab:Hid ((kq d).length=d.name.size+11+(d.kids.src false).length+7):=by
     unfold Hid;simp[kq,bra,ket,lK,gx,bl]
     all_goals omega
    have C1:=AF (eN (w.heap.size+1) (w.heap.size+1) A (⟨#[123,123,100,101,102,105,110,101,32]⟩++d.name++⟨#[125,125]⟩) W2 an.out (by have:=aa.out;have:=ab.out;have:=HN.out;omega) (by have:=N.out.size;omega))
    go_wp2_with fail
    refine C1.out.mono ?_
    rintro e w3 ⟨rfl,E,G⟩
    have ae:=AF E
    have r:=AF G
    clear E G q0 C1
    have ak:Hid ((A++bl (⟨#[123,123,100,101,102,105,110,101,32]⟩++d.name++⟨#[125,125]⟩)).length=A.length+(d.name.size+11)):=by
     unfold Hid;rw[List.length_append];have:=HN.out;simp[bl]at this ⊢
     all_goals omega
    have q2:w3.cell? ⟨wr.heap.size,2,none⟩=some (.slice Y d.kids.len W):=by rw[dW (r.out.block al.out (by omega) (by decide))];rfl
    have C2:=AF (kG d.kids (w.heap.size+1) (w.heap.size+1) _ (.slice Y d.kids.len W) w3 aw.out ah (by have:=aa.out;have:=ab.out;have:=ak.out;omega)
     ((aD.out.kept (eL.of_below ((N.out.1.mono (Nat.le_succ _)).trans (r.out.1.mono (Nat.le_succ _))))).mono (λb hb=>Nat.lt_succ_of_lt hb)) ae.out (by have:=N.out.size;have:=r.out.size;omega))
    go_wp2_with fail
    refine C2.out.mono ?_
    rintro e w4 ⟨rfl,J,ag⟩
    have aF:=AF J
    have U:=AF ag
    clear J ag q2 C2
    have C3:=AF (eN (w.heap.size+1) (w.heap.size+1) _ ⟨#[123,123,101,110,100,125,125]⟩ w4 aF.out (by
     have:=aa.out;have:=ab.out;have:=ak.out
     rw[List.length_append]
     have:(⟨#[123,123,101,110,100,125,125]⟩:ByteArray).size=7:=rfl
     omega) (by have:=N.out.size;have:=r.out.size;have:=U.out.size;omega))
    go_wp2_with fail
    refine C3.out.mono ?_
    rintro e w5 ⟨rfl,ai,af⟩
    have aE:Hid (Bdf (w.heap.size+1) (w.heap.size+1) (A++kq d) w5):=by
     have:=ai
     rw[show A++bl (⟨#[123,123,100,101,102,105,110,101,32]⟩++d.name++⟨#[125,125]⟩)++d.kids.src false++bl ⟨#[123,123,101,110,100,125,125]⟩=A++kq d by simp[kq,bl,bra,ket,lK,gx]]at this
     exact this
    have aA:=AF af
    clear ai af C3
    go_wp2_with fail
    go_roundw
    case rel=>exact⟨k+1,A++kq d,by go_num,by omega,aE,R.out.trans (N.out.trans (r.out.trans (U.out.trans aA.out))),V⟩
    case measure=>simp[intOf];omega
  · have aK:¬(k:Int)<(defs.length:Int):=by omega
    have V:Hid (A++main.src false=Tm.src ⟨main,defs⟩):=by
     have:=HE.out
     rw[List.drop_of_length_le (by omega)]at this
     unfold Hid;simpa using this
    have C2:=AF (kG main (w.heap.size+1) (w.heap.size+1) A (.slice M main.len K) wr ay.out ar (by have h1:=aj.out;have h2:=congrArg List.length V.out;rw[List.length_append]at h2;omega)
     ((HM.out.kept (eL.of_below ac.out)).mono (λb hb=>Nat.lt_succ_of_lt hb)) ap.out (by omega))
    go_wp2_with fail
    refine C2.out.mono ?_
    rintro e w3 ⟨rfl,E,G⟩
    rw[V.out]at E
    have ae:=AF E
    have r:=AF G
    clear E G C2
    have C3:=AF (ns (w.heap.size+1) (w.heap.size+1) _ w3 ae.out (by have:=r.out.size;omega))
    go_wp2_with fail
    refine C3.out.mono ?_
    rintro e w4 ⟨rfl,J⟩
    have U:=AF J
    clear J C3
    go_wp2_with fail
    go_ret
    exact⟨rfl,ac.out.trans ((r.out.1.mono (Nat.le_succ _)).trans (U.out.mono (Nat.le_succ _)))⟩
theorem pK (r:Addr)(w:World):
 CallsD Tryz.prog 37 #[.pointer (some r)] .returning w λe o w'=>e=.returned (.tuple #[])/\o=.returning/\w'=w:=by
 refine callsD_of_wpS Tryz.func37 rfl λE cs A=> ?_
 simp only[Tryz.ntmps37,List.size_toArray,List.length_cons,List.length_nil,Nat.reduceAdd,Nat.reduceSub,Array.replicate_succ,Array.replicate_zero,List.push_toArray,List.append_toArray,List.nil_append,List.cons_append]
 apply wpS_seq
 apply wpS_region
 simp[wpOpsS,go_sem,recoverD,A,Exit.thenS]
 refine wpS_of_wp ?_
 generalize m:(λe G w'=>bodyPostS _ _ _ _ _ e G _ w')=Q
 have I:=AF m
 clear m
 go_wp2_with fail
 rw[<-I.out]
 refine⟨rfl,.returning,?_,.tuple #[],?_,rfl,rfl,rfl⟩
 · cases E;simp_all
 · simp[results,Tryz.results37]
theorem oy (m:Nat)(A:Value)(n p:Int)(w:World)(o:w.heap[m]? =some (.cells #[A] 37 (0,0))):
 CallsD Tryz.prog 37 #[.pointer (some ⟨m,0,none⟩)] (.panicking [{v:=.iface 84 (.agg #[.int .i64 n,.int .i64 p]),recovered:=false}]) w λe J w'=>
  e=.returned (.tuple #[])/\J=.panicking [{v:=.iface 84 (.agg #[.int .i64 n,.int .i64 p]),recovered:=true}]/\w'.heap[m]? =some (.cells #[.int .i64 n] 37 (0,0))/\Gr m w w':=by
 have E:=λw=>fW (P:=Tryz.prog) w (tx:=84) (.agg #[.int .i64 n,.int .i64 p]) Tryz.underlying20
 have G:=kf (.agg #[.int .i64 n,.int .i64 p])
 have U:w.cell? ⟨m,0,none⟩=some A:=by rw[dW o];rfl
 have fe:=dY o
 have K:=dX o
 have O:=AF o
 clear o
 refine callsD_of_wpS Tryz.func37 rfl λV cs r=> ?_
 simp only[Tryz.ntmps37,List.size_toArray,List.length_cons,List.length_nil,Nat.reduceAdd,Nat.reduceSub,Array.replicate_succ,Array.replicate_zero,List.push_toArray,List.append_toArray,List.nil_append,List.cons_append]
 apply wpS_seq
 apply wpS_region
 simp[wpOpsS,go_sem,recoverD,r,Exit.thenS]
 refine wpS_of_wp ?_
 generalize I:(λe M w'=>bodyPostS _ _ _ _ _ e M _ w')=Q
 have N:=AF I
 have W:=AF r
 clear I r
 have R:¬m=w.heap.size:=by omega
 go_wp2_with fail
 show Q Exit.normal _ _
 rw[<-N.out]
 refine⟨rfl,_,rfl,.tuple #[],by simp[results,Tryz.results37],rfl,rfl,?_,(Gr.set w 0 _).trans (Gr.alloc _ _)⟩
 exact(Below.heap_alloc _ _ _ (by simp[World.setCell];omega)).trans (d7 O.out _)
theorem jo {w:World}{tmps:Array Value}{m:Nat}{z:Value}(A:tmps.getD 2 undef=.pointer (some ⟨m,0,none⟩))
 (r:w.heap[m]? =some (.cells #[z] 37 (0,0))):(results Tryz.f22 tmps).run Tryz.prog w=.ok z w:=by
 have E:w.cell? ⟨m,0,none⟩=some z:=by rw[dW r];rfl
 have o:tmps[2]?.getD undef=.pointer (some ⟨m,0,none⟩):=by rw[<-A];simp
 clear r
 simp[results,Tryz.results22,o,go_sem,E]
def tD (m:Nat):List Deferred:=[{target:=.fn (.func 37) #[.pointer (some ⟨m,0,none⟩)],args:=#[]}]
theorem pI {R:Ending->World->Prop}{a:Act}{W:World}{m:Nat}{r:Value}(n p:Int)(E:a.defers=tD m)(I:a.tmps.getD 2 undef=.pointer (some ⟨m,0,none⟩))
 (A:W.heap[m]? =some (.cells #[r] 37 (0,0)))
 (G:∀w',Gr m W w'->R (.returned (.int .i64 n)) w'):
 bodyPostD Tryz.prog Tryz.f22 R (.panic [{v:=.iface 84 (.agg #[.int .i64 n,.int .i64 p]),recovered:=false}]) a W:=by
 show Leaves _ _ _ _ a.defers _ _
 rw[E]
 refine leaves_cons (f:=37) (args:=#[.pointer (some ⟨m,0,none⟩)]) (by simp) (by simp[go_sem]) ?_
 refine(oy m r n p W A).mono ?_
 rintro e J o ⟨rfl,rfl,c1,c2⟩
 exact⟨_,jo I c1,G o c2⟩
theorem fk {R:Ending->World->Prop}{a:Act}{W:World}{m:Nat}{o:Value}(E:a.defers=tD m)(I:a.tmps.getD 2 undef=.pointer (some ⟨m,0,none⟩))
 (A:W.heap[m]? =some (.cells #[o] 37 (0,0))) (G:R (.returned o) W):
 bodyPostD Tryz.prog Tryz.f22 R .ret a W:=by
 show Leaves _ _ _ _ a.defers _ _
 rw[E]
 refine leaves_cons (f:=37) (args:=#[.pointer (some ⟨m,0,none⟩)]) (by simp) (by simp[go_sem]) ?_
 refine(pK ⟨m,0,none⟩ W).mono ?_
 rintro e J r ⟨rfl,rfl,rfl⟩
 exact⟨_,jo I A,G⟩
open Go.RowKit Go.Shelf Go.Maps Go.WideMaps
theorem fj (l:List By)(x:By):twice (l++[x])=(twice l||l.contains x):=by
 induction l with
 | nil=>simp[twice]
 | cons y l m=>
   simp only[List.cons_append,twice,m,List.contains_cons]
   have e:(l++[x]).contains y=(l.contains y||(x==y)):=by
    rw[Bool.eq_iff_iff,Bool.or_eq_true,beq_iff_eq,List.contains_iff_mem,List.contains_iff_mem,List.mem_append,List.mem_singleton];exact⟨λh=>h.imp id Eq.symm,λh=>h.imp id Eq.symm⟩
   rw[e]
   have o:(x==y)=(y==x):=by rw[Bool.eq_iff_iff,beq_iff_eq,beq_iff_eq];exact⟨Eq.symm,Eq.symm⟩
   rw[o]
   cases(l.contains y) <;> cases(twice l) <;> cases(l.contains x) <;> simp
def okD (d:Df):Bool:=eK (bl d.name)&&d.kids.form false
def iK (l:List Df):Nat:=(l.map λd=>1+d.kids.deep).foldr max 0
def oq (l:List Df):Nat:=(l.map λd=>d.kids.cnt).sum
theorem gJ (d:Df)(l:List Df):iK (d::l)=max (1+d.kids.deep) (iK l):=rfl
theorem gL (d:Df)(l:List Df):oq (d::l)=d.kids.cnt+oq l:=by simp[oq]
def ud (m D:Nat)(tw N:Bool)(n:Nat):Nat:=if 64<D then 193 else if tw=true then 194 else if N=true then 195 else if 1024<m\/16384<n then 196 else 0
theorem tE (t:Tm)(r:t.main.form true=true)(o:t.defs.all okD=true):t.check=ud (t.main.cnt+oq t.defs) (max t.main.deep (iK t.defs)) (twice (t.defs.map λd=>bl d.name)) (!(t.main.called t.defs&&t.defs.all λd=>d.kids.called t.defs)) t.src.length:=by
 unfold Tm.check ud
 have m:¬((t.main.form true&&t.defs.all λd=>eK (bl d.name)&&d.kids.form false)=false):=by
  rw[r,show(t.defs.all λd=>eK (bl d.name)&&d.kids.form false)=true from o];simp
 rw[if_neg m]
 unfold oq iK
 cases(t.main.called t.defs&&t.defs.all λd=>d.kids.called t.defs) <;> simp
theorem ry (t:Tm)(h:t.main.form true=false):t.check=190:=by unfold Tm.check;rw[if_pos (by rw[h];rfl)]
theorem iH (t:Tm)(d:Df)(m:d∈t.defs)(h:okD d=false):t.check=190:=by
 unfold Tm.check
 rw[if_pos]
 rw[Bool.and_eq_false_iff]
 right
 rw[List.all_eq_false]
 exact⟨d,m,by unfold okD at h;rw[h];simp⟩
theorem mI {a b:Int}(h:(DataW.lit (.int .i64 a):DataW Unit)=.lit (.int .i64 b)):a=b:=by
 have m:=DataW.lit.inj h
 exact(Lit.int.inj m).2
def oL (D:DataW Unit)(l:List By)(k:Nat):Prop:=IsMap D/\∀x:By,∃c:Int,D.atKey (.string x) (.lit (.int .i64 0))=.lit (.int .i64 c)/\0<=c/\c<=k/\(1<=c↔l.contains x=true)
theorem oL.empty:oL (.map []) [] 0:=⟨isMap_empty,λx=>⟨0,rfl,by omega,by omega,by simp⟩⟩
theorem oL.put {D:DataW Unit}{l:List By}{k:Nat}(h:oL D l k)(x:By)(c:Int)(A:D.atKey (.string x) (.lit (.int .i64 0))=.lit (.int .i64 c)):oL (D.put (.string x) (.lit (.int .i64 (c+1)))) (l++[x]) (k+1):=by
 obtain⟨r,o⟩:=h
 refine⟨r.put _ _,λy=> ?_⟩
 by_cases e:y=x
 · subst e
   obtain⟨m,q1,q2,q3,q4⟩:=o y
   have:m=c:=mI (q1.symm.trans A)
   subst this
   refine⟨m+1,atKey_put_same r (by first | trivial | decide | simp[WideAt.IsKeyLit]) _ _,by omega,by omega,?_⟩
   simp;omega
 · obtain⟨m,q1,q2,q3,q4⟩:=o y
   refine⟨m,(atKey_put_other (by intro E;apply e;injection E) _ _).trans q1,q2,by omega,?_⟩
   rw[q4];simp[e]
def nb (M k:Nat)(l:List By)(w:World):Prop:=∃D,w.ownsMap Tryz.prog 9 (plainElem Tryz.prog 3) M k D/\oL D l k
theorem nb.gr {M k:Nat}{l:List By}{w w':World}{bx:Nat}(h:nb M k l w)(o:Gr bx w w')(m:M≠bx):nb M k l w':=by
 obtain⟨D,A,r⟩:=h
 exact⟨D,A.kept o (by intro e;injection e with e;exact m e),r⟩
theorem nb.lt {M k:Nat}{l:List By}{w:World}(h:nb M k l w):M<w.heap.size:=by
 obtain⟨D,m,o⟩:=h
 exact m.lt
theorem nb.made (w:World):nb w.heap.size 0 [] (w.alloc (.map #[] 0)):=⟨_,World.ownsMap_made w _ _ _,oL.empty⟩
theorem my:Keyed Tryz.prog 9:=string_keyed Tryz.underlying9
theorem mu (w:World):(zeroValue 3).run Tryz.prog w=.ok (.int .i64 0) w:=by kernel_rfl
theorem nb.look {M k:Nat}{l:List By}{w:World}(h:nb M k l w)(s:ByteArray)(o:s.size<=maxLen):
 ∃c:Int,(Instr.lookup 89 (.map (some M)) (.string s) false).run Tryz.prog w=.ok (.int .i64 c) w/\0<=c/\c<=k/\(1<=c↔l.contains (bl s)=true):=by
 obtain⟨D,A,I,r⟩:=h
 obtain⟨c,G,E,J⟩:=A.lookup_int my Tryz.underlying89 Tryz.underlying3 (mu w) (keyOf_string_mk Tryz.underlying9 o)
 obtain⟨m,q1,q2,q3,q4⟩:=r (bl s)
 have:m=c:=mI (q1.symm.trans E)
 subst this
 exact⟨m,G,q2,q3,q4⟩
theorem nb.store {M k:Nat}{l:List By}{w:World}(h:nb M k l w)(W:k<=16777216)(s:ByteArray)(A:s.size<=maxLen):
 ∃ c:Int,(Instr.lookup 89 (.map (some M)) (.string s) false).run Tryz.prog w=.ok (.int .i64 c) w/\0<=c/\c<=k/\(1<=c↔l.contains (bl s)=true)/\
   ∃ w',(Instr.mapUpdate 89 (.map (some M)) (.string s) (.int .i64 (c+1))).run Tryz.prog w=.ok () w'/\nb M (k+1) (l++[bl s]) w'/\w.grownBy w' (some M)/\
     (Instr.lookup 89 (.map (some M)) (.string s) false).run Tryz.prog w'=.ok (.int .i64 (c+1)) w':=by
 obtain⟨D,J,I,G⟩:=h
 obtain⟨c,V,U,Z⟩:=J.lookup_int my Tryz.underlying89 Tryz.underlying3 (mu w) (keyOf_string_mk Tryz.underlying9 A)
 have r:D.atKey (.string (bl s)) (.lit (.int .i64 0))=.lit (.int .i64 c):=U
 obtain⟨m,q1,q2,q3,q4⟩:=G (bl s)
 have:m=c:=mI (q1.symm.trans r)
 subst this
 obtain⟨w',N,E,K⟩:=J.update my Tryz.underlying89 (by unfold maxLen;omega) (keyOf_string_mk Tryz.underlying9 A) (plainElem_int Tryz.underlying3 (a:=m+1) (by show(decide _&&decide _)=true;rw[Bool.and_eq_true];exact⟨decide_eq_true (by show(-9223372036854775808:Int)<=m+1;omega),decide_eq_true (by show m+1<=(9223372036854775807:Int);omega)⟩))
 refine⟨m,V,q2,q3,q4,w',N,⟨_,E,oL.put ⟨I,G⟩ (bl s) m r⟩,K,?_⟩
 obtain⟨c2,R,O,Y⟩:=E.lookup_int my Tryz.underlying89 Tryz.underlying3 (mu w') (keyOf_string_mk Tryz.underlying9 A)
 have o:(D.put (.string (bl s)) (.lit (.int .i64 (m+1)))).atKey (.string (bl s)) (.lit (.int .i64 0))=.lit (.int .i64 c2):=O
 rw[atKey_put_same I (by first | trivial | decide | simp[WideAt.IsKeyLit])]at o
 have:m+1=c2:=mI o
 subst this
 exact R
end Go.Proofs.YtepcpgdfbaklfaaGreatDoor
