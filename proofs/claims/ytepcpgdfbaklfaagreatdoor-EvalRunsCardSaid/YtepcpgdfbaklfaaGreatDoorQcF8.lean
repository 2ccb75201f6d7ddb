/- The contracts of json.twice and json.plain. The condition: sizes of at most 2 to the 24th. -/
import Derived.Test.YtepcpgdfbaklfaaGreatDoorQcF0
import Derived.Test.YtepcpgdfbaklfaaGreatDoorQcTp0
import Derived.Test.YtepcpgdfbaklfaaGreatDoorQcTso
import Derived.Test.YtepcpgdfbaklfaaGreatDoorQcE0
import Derived.Laws.StructEq
set_option maxRecDepth 100000
set_option maxHeartbeats 40000000
set_option linter.unusedSimpArgs false
set_option linter.unusedVariables false
namespace Go.Proofs.YtepcpgdfbaklfaaGreatDoor
open Go.RowKit Go.Shelf Ev
attribute [local go_sem ↓] Go.wp_at_zero Go.wp_at_succ
theorem lP (l:List By):∀(r:List By),twice l=true->twice (l++r)=true:=by
 induction l with
 | nil=>intro r h;cases h
 | cons x l m=>
   intro r h
   simp only[twice,Bool.or_eq_true]at h
   simp only[List.cons_append,twice,Bool.or_eq_true]
   rcases h with h | h
   · left
     rw[List.contains_iff_mem]at h ⊢
     exact List.mem_append_left _ h
   · exact .inr (m r h)
theorem oX:∀(l:List ByteArray),twice (l.map bl)= !decide l.Nodup:=by
 intro l
 induction l with
 | nil=>rfl
 | cons x l m=>
   have e:((l.map bl).contains (bl x))=true↔x∈l:=by
    rw[List.contains_iff_mem,List.mem_map]
    exact⟨λ⟨y,o,h⟩=>by rw[<-Ev.bl_inj h];exact o,λh=>⟨x,h,rfl⟩⟩
   rw[List.map_cons,twice,m,Bool.eq_iff_iff]
   simp only[Bool.or_eq_true,Bool.not_eq_true',decide_eq_false_iff_not,e,List.nodup_cons]
   by_cases A:x∈l <;> by_cases r:l.Nodup <;> simp[A,r]
theorem oY (l:List ByteArray)(hl:l.length<=16777216)(hs:∀n∈l,n.size<=16777216)(ok:Nat->Prop)(v:Value)(w:World)(h:Strs ok w v l):
 Calls Tryz.prog 128 #[v] w λe w'=>e=.returned (.bool (twice (l.map bl)))/\Below w.heap.size w w':=by
 obtain⟨a,c,rfl,h1,h2,h3⟩:=h.lt
 have H3:=AF h3
 have HS:=AF hs
 clear h3 h hs
 have ah:= @run_makeMap Tryz.prog
 have aa:Hid (nb w.heap.size 0 [] (w.alloc (.map #[] 0))):=nb.made w
 have ab:Hid (Below w.heap.size w (w.alloc (.map #[] 0))):=(ue rfl).1
 go_enter Tryz.func128,Tryz.ntmps128
 go_wp2_with fail
 generalize V:World.alloc w _=W1 at*
 clear V
 go_loopw [9] (λi wr=>∃k:Nat,i=.int .i64 (k:Nat)/\k<=l.length/\Hid (nb w.heap.size k ((l.take k).map bl) wr)/\Hid (Below w.heap.size w wr)/\Hid (twice ((l.take k).map bl)=false)) (λi _=>l.length - (intOf i).toNat)
 case atStart=>exact⟨0,rfl,Nat.zero_le _,aa,ab,rfl⟩
 case round=>
  obtain⟨k,rfl,hk,HM,R,Y⟩:=hrel
  by_cases A:k<l.length
  · have ac:(k:Int)<(l.length:Int):=by omega
    have aj:(0:Int)<=(k:Int):=by omega
    obtain⟨s,E⟩:∃s,l[k]? =some s:=⟨_,List.getElem?_eq_getElem A⟩
    obtain⟨b,o,rfl,⟨-,hb⟩,hc⟩:=H3.out (by intro e;rw[e]at A;simp at A)
    have c1:wr.cell? ⟨b,o+k,none⟩=some (.string s):=(R.out.cell (p:=⟨b,_,none⟩) hb).trans (hc k s E)
    have ag:s.size<=16777216:=HS.out s (List.mem_of_getElem? E)
    have K:Hid ((l.take (k+1)).map bl=(l.take k).map bl++[bl s]):=by
     unfold Hid
     rw[List.take_succ_eq_append_getElem A,List.map_append]
     congr 1
     rw[List.map_singleton,(List.getElem?_eq_some_iff.1 E).2]
    have W:Hid (l.map bl=((l.take k).map bl++[bl s])++(l.drop (k+1)).map bl):=by
     unfold Hid;rw[<-K.out,←List.map_append,List.take_append_drop]
    obtain⟨M,ai,am,al,r,w4,af,I,G,ad⟩:=HM.out.store (by omega) s (by unfold maxLen;omega)
    rw[<-K.out]at I
    have Z:=AF I
    have O:Hid (Below w.heap.size w w4):=R.out.trans (Gr.to_below G R.out.size (AG _))
    have ae:IntKind.i64.wrap (M+1)=M+1:=IntWalk.i64_in _ ⟨by omega,by omega⟩
    clear hc E A I G
    by_cases m:((l.take k).map bl).contains (bl s)=true
    · have J:(1:Int)<M+1:=by have:=r.2 m;omega
      have U:decide ((1:Int)<M+1)=true:=decide_eq_true J
      have N:Hid (twice (l.map bl)=true):=by
       unfold Hid;rw[W.out];exact lP _ _ (by rw[fj,Y.out,m];rfl)
      clear r m
      go_wp2_with fail
      go_ret
      exact⟨by rw[N.out];rfl,O.out⟩
    · have J:¬(1:Int)<M+1:=by intro e;exact m (r.1 (by omega))
      have U:decide ((1:Int)<M+1)=false:=decide_eq_false J
      have N:Hid (twice ((l.take (k+1)).map bl)=false):=by unfold Hid;rw[K.out,fj,Y.out];simpa using m
      clear r m
      go_wp2_with fail
      go_roundw
      case rel=>exact⟨k+1,by go_num,by omega,Z,O,N⟩
      case measure=>simp[intOf];omega
  · have ak:¬(k:Int)<(l.length:Int):=by omega
    have N:Hid (twice (l.map bl)=false):=by have:=Y.out;rw[List.take_of_length_le (by omega)]at this;exact this
    go_wp2_with fail
    go_ret
    exact⟨by rw[N.out];rfl,R.out⟩
def z4 (b:Bool)(n u:Int)(s:ByteArray):Bool:= !b&&(decide (n=0)&&(decide (u=0)&&decide (s.size=0)))
theorem pZ (b:Bool)(n u:Int)(s:ByteArray)(w:World):(binOp .eql 183 (.agg #[.bool b,.int .i64 n,.int .u64 u,.string s]) (.agg #[.bool false,.int .i64 0,.int .u64 0,.string ⟨#[]⟩])).run Tryz.prog w=.ok (.bool (z4 b n u s)) w:=by
 have A:Tryz.prog.underlying 183=some (.struct (Tryz.prog.fieldsOf 183)):=by kernel_rfl
 have m:Tryz.prog.stoodInHeld 183=false:=by kernel_rfl
 rw[run_eql_struct,run_equalIn_struct w 9999 _ _ _ A m]
 have K:=λ(d:Nat) w=>run_equalIn_bool' (P:=Tryz.prog) w d 4 b false Tryz.underlying4
 have J:=λ(d:Nat) w=>run_equalIn_int (P:=Tryz.prog) w d 2 .i64 .i64 n 0 Tryz.underlying2
 have I:=λ(d:Nat) w=>run_equalIn_int (P:=Tryz.prog) w d 27 .u64 .u64 u 0 Tryz.underlying27
 have G:=λ(d:Nat) w=>run_equalIn_string (P:=Tryz.prog) w d 9 s ⟨#[]⟩ Tryz.underlying9
 have E:(s.toList=[])=(s.size=0):=by
  rw[ByteArray.toList_eq,eq_iff_iff]
  constructor
  · intro h;have:=congrArg List.length h;simpa using this
  · intro h;rw[ia s h]
 simp only[Program.fieldsOf,Tryz.underlying183,Op.eqFields]
 simp[go_sem,Op.eqFields,K 9998,J 9998,I 9998,G 9998]
 simp only[E]
 unfold z4
 cases b with
 | true=>rfl
 | false=>
   by_cases o:n=0
   · by_cases r:u=0
     · by_cases m:s.size=0
       · simp[o,r,m]
       · simp[o,r,m]
     · simp[o,r]
   · simp[o]
def tV (kind:Nat)(b:Bool)(n:Int)(bits:Nat)(text:ByteArray)(keys:List ByteArray)(m:Vl):Prop:=∀(ok:Nat->Prop) (a1 a2:Option Addr) (c1 c2:Nat) (w:World),Va.sm ⟨⟨kind,b,n,bits,text,keys⟩,m⟩->fu ok w ⟨⟨kind,b,n,bits,text,keys⟩,m⟩ a1 c1 a2 c2->
 Calls Tryz.prog 90 #[.agg #[.int .u8 (kind:Nat),.bool b,.int .i64 n,.int .u64 (bits:Nat),.string text,.slice a1 keys.length c1,.slice a2 m.len c2]] w λe w'=>e=.returned (.bool (eW ⟨kind,b,n,bits,text,keys⟩ m.len))/\Below w.heap.size w w'
theorem lU (kind:Nat)(b:Bool)(n:Int)(bits:Nat)(text:ByteArray)(keys:List ByteArray)(items:Nat)(G:1<=kind)(E:kind<=6):eW ⟨kind,b,n,bits,text,keys⟩ items=
 (z4 (if kind=2 then false else b) (if kind=3 then 0 else n) (if kind=4 then(0:Int)else(bits:Int)) (if kind=5 then⟨#[]⟩else text)&&(decide ((if kind=6 then 0 else items)=0)&&((keys.length:Int)==0))):=by
 have A:((keys.length:Int)==0)=decide (keys=[]):=by cases keys with | nil=>rfl | cons a l=>simp;omega
 rw[A]
 have m:kind=1\/kind=2\/kind=3\/kind=4\/kind=5\/kind=6:=by omega
 rcases m with rfl | rfl | rfl | rfl | rfl | rfl
 all_goals
  simp only[eW,z4]
  cases b <;> by_cases g1:n=0 <;> by_cases r:bits=0 <;> by_cases g3:text.size=0 <;> by_cases g4:keys=[] <;> by_cases o:items=0 <;> (simp[g1,r,g3,g4,o];try rfl)
theorem qc (b:Bool)(n:Int)(bits:Nat)(text:ByteArray)(keys:List ByteArray)(items:Nat):eW ⟨7,b,n,bits,text,keys⟩ items=(decide (items=keys.length)&&(!twice (keys.map bl)&&z4 b n bits text)):=by
 rw[oX]
 simp only[eW,z4]
 by_cases m:items=keys.length <;> by_cases g4:keys.Nodup <;> cases b <;> by_cases g1:n=0 <;> by_cases o:bits=0 <;> by_cases g3:text.size=0 <;> simp[g1,o,g3,g4,m]
theorem lT (kind:Nat)(b:Bool)(n:Int)(bits:Nat)(text:ByteArray)(keys:List ByteArray)(items:Nat)(h:kind=0\/7<kind):eW ⟨kind,b,n,bits,text,keys⟩ items=false:=by
 have:¬(1<=kind/\kind<=7):=by omega
 simp[eW,this]
theorem zH {P:Nat}{a b c d:Value}{T:TypeId}{fr:Nat×Nat}{w:World}(m:w.heap[P]? =some (.cells #[a,b,c,d] T fr)):w.cell? ⟨P,0,none⟩=some a/\w.cell? ⟨P,1,none⟩=some b/\w.cell? ⟨P,2,none⟩=some c/\w.cell? ⟨P,3,none⟩=some d:=
 ⟨by rw[dW m];rfl,by rw[dW m];rfl,by rw[dW m];rfl,by rw[dW m];rfl⟩
theorem si (kind:Nat)(U:1<=kind)(O:kind<=6)(b:Bool)(n:Int)(bits:Nat)(text:ByteArray)(keys:List ByteArray)(o:Vl):tV kind b n bits text keys o:=by
 intro ok a1 a2 c1 c2 w M Y
 clear Y M
 have EQ:=pZ
 have E:=AF (lU kind b n bits text keys o.len U O)
 obtain⟨R,N⟩:∃R,eW ⟨kind,b,n,bits,text,keys⟩ o.len=R:=⟨_,rfl⟩
 rw[N]at E ⊢
 clear N
 have Z:kind=1\/kind=2\/kind=3\/kind=4\/kind=5\/kind=6:=by omega
 clear U O
 rcases Z with rfl | rfl | rfl | rfl | rfl | rfl
 all_goals
  simp only[Nat.reduceEqDiff,if_true,if_false,reduceIte]at E
  go_enter Tryz.func90,Tryz.ntmps90
  go_upto_region 2 with(fail)
  go_quiet (fail)
  generalize I:World.alloc (World.alloc w _) _=W
  obtain⟨G,K,r,m⟩:=qx I
  clear I
  generalize A:World.drewN W _=V
  have J:Hid (Below w.heap.size w V):=by rw[<-A];exact ei G _
  rw[show W.heap=V.heap by rw[<-A];rfl]at r m K
  clear A G
  obtain⟨x0,-,-,-,-,x5,-⟩:=fR (h:=⟨_,b,n,bits,text,keys⟩) r
  obtain⟨y0,y1,y2,y3⟩:=zH m
  have yf:=dY m
  have aa:=AF m
  clear r m
  go_wp2_with fail
  all_goals
   go_ret
   refine⟨?_,by first | exact J.out | exact J.out.setCell (p:=⟨w.heap.size+1,_,none⟩) (by show w.heap.size<=w.heap.size+1;omega) _⟩
   rw[E.out]
   simp[*]
theorem wS (b:Bool)(n:Int)(bits:Nat)(text:ByteArray)(keys:List ByteArray)(m:Vl):tV 7 b n bits text keys m:=by
 intro ok a1 a2 c1 c2 w G hv
 have TC:Hid (∀W,Below w.heap.size w W->Calls Tryz.prog 128 #[.slice a1 keys.length c1] W λe w'=>e=.returned (.bool (twice (keys.map bl)))/\Below W.heap.size W w'):=λW hW=>
  oY keys G.1.2.2.2.2.2.1 G.1.2.2.2.2.2.2 (λb=>ok b/\b<w.heap.size) _ W (hv.1.lt.kept (λb hb=>hW.block b hb.2))
 clear hv G
 have EQ:=pZ
 have r:=AF (qc b n bits text keys m.len)
 obtain⟨R,hR⟩:∃R,eW ⟨7,b,n,bits,text,keys⟩ m.len=R:=⟨_,rfl⟩
 rw[hR]at r ⊢
 clear hR
 go_enter Tryz.func90,Tryz.ntmps90
 go_upto_region 2 with(fail)
 go_quiet (fail)
 generalize N:World.alloc (World.alloc w _) _=W0
 obtain⟨M,U,E,o⟩:=qx N
 clear N
 generalize K:World.drewN W0 _=W1
 have A:Hid (Below w.heap.size w W1):=by rw[<-K];exact ei M _
 rw[show W0.heap=W1.heap by rw[<-K];rfl]at E o U
 clear K M
 obtain⟨x0,-,-,-,-,x5,-⟩:=fR (h:=⟨_,b,n,bits,text,keys⟩) E
 obtain⟨y0,y1,y2,Z⟩:=zH o
 have yf:=dY o
 have Y:=AF o
 clear E o
 by_cases I:m.len=keys.length
 · have e1:((m.len:Int)!=(keys.length:Int))=false:=by simp[I]
   have V:(m.len:Int)=(keys.length:Int):=by omega
   have e3:((m.len:Int)==(keys.length:Int))=true:=by simp[I]
   go_wp2_with fail
   refine(TC.out _ A.out).mono ?_
   rintro e w2 ⟨rfl,J⟩
   have O:Hid (Below w.heap.size w w2):=A.out.trans (J.mono A.out.size)
   clear y0 y1 y2 Z yf x0 x5
   obtain⟨y0,y1,y2,Z⟩:=zH ((J.block _ (by omega)).trans Y.out)
   clear J
   generalize hT:twice (keys.map bl)=tw at*
   cases tw with
   | true=>
     go_wp2_with fail
     go_ret
     exact⟨by rw[r.out];simp,O.out⟩
   | false=>
     go_wp2_with fail
     all_goals
      go_ret
      refine⟨?_,O.out⟩
      rw[r.out]
      simp[*]
 · have V:¬(m.len:Int)=(keys.length:Int):=by omega
   have e1:((m.len:Int)!=(keys.length:Int))=true:=by simp[V]
   have e3:((m.len:Int)==(keys.length:Int))=false:=by simp[V]
   go_wp2_with fail
   go_ret
   refine⟨?_,A.out⟩
   rw[r.out]
   simp[I]
theorem sd (kind:Nat)(K:kind=0\/7<kind)(b:Bool)(n:Int)(bits:Nat)(text:ByteArray)(keys:List ByteArray)(r:Vl):tV kind b n bits text keys r:=by
 intro ok a1 a2 c1 c2 w G O
 clear O G
 have I:=AF (lT kind b n bits text keys r.len K)
 have e (i:Int) (h:0<i) (h7:i<8):((kind:Int)==i)=false:=beq_eq_false_iff_ne.2 (by omega)
 have e1:=e 1 (by decide) (by decide)
 have e2:=e 2 (by decide) (by decide)
 have e3:=e 3 (by decide) (by decide)
 have Z:=e 4 (by decide) (by decide)
 have Y:=e 5 (by decide) (by decide)
 have W:=e 6 (by decide) (by decide)
 have V:=e 7 (by decide) (by decide)
 clear K e
 go_enter Tryz.func90,Tryz.ntmps90
 go_upto_region 2 with(fail)
 go_quiet (fail)
 generalize E:World.alloc (World.alloc w _) _=N
 obtain⟨A,-,m,-⟩:=qx E
 clear E
 generalize o:World.drewN N _=M
 have J:Hid (Below w.heap.size w M):=by rw[<-o];exact ei A _
 rw[show N.heap=M.heap by rw[<-o];rfl]at m
 clear o A
 obtain⟨U,-,-,-,-,R,-⟩:=fR (h:=⟨_,b,n,bits,text,keys⟩) m
 clear m
 go_wp2_with fail
 go_ret
 exact⟨by rw[I.out];rfl,J.out⟩
theorem pg (x:Va)(r:Va.sm x)(ok:Nat->Prop)(a1 a2:Option Addr)(c1 c2:Nat)(w:World)(o:fu ok w x a1 c1 a2 c2):
 Calls Tryz.prog 90 #[.agg #[.int .u8 (x.h.kind:Nat),.bool x.h.b,.int .i64 x.h.n,.int .u64 (x.h.bits:Nat),.string x.h.text,.slice a1 x.h.keys.length c1,.slice a2 x.items.len c2]] w λe w'=>e=.returned (.bool (eW x.h x.items.len))/\Below w.heap.size w w':=by
 obtain⟨⟨kind,b,n,bits,text,keys⟩,m⟩:=x
 by_cases h:kind=0\/7<kind
 · exact sd kind h b n bits text keys m ok a1 a2 c1 c2 w r o
 · by_cases A:kind=7
   · subst A
     exact wS b n bits text keys m ok a1 a2 c1 c2 w r o
   · exact si kind (by omega) (by omega) b n bits text keys m ok a1 a2 c1 c2 w r o
theorem oo (t:Vl):gR t<=eX t:=by
 induction t with
 | nil=>exact AG _
 | cons h k r o m=>
   simp only[gR,eX]
   split <;> omega
theorem sJ {x:Va}{d:Nat}(h:fI x=some d):d<=eX x.items+1:=by
 rw[qj]at h
 split at h
 · injection h with h
   have:=oo (.cons x.h x.items .nil)
   simp only[eX]at this
   omega
 · cases h
def LoP (x:Va)(w:World)(e:Ending)(w':World):Prop:=Below w.heap.size w w'/\match fI x with
 | some d=>e=.returned (.tuple #[.int .i64 (d:Nat),.bool true])
 | none=>e=.returned (.tuple #[.int .i64 0,.bool false])
theorem LoP.none {x:Va}{w:World}{e:Ending}{w':World}(h:fI x=Option.none)(m:e=.returned (.tuple #[.int .i64 0,.bool false]))(o:Below w.heap.size w w'):LoP x w e w':=by
 unfold LoP
 rw[h]
 exact⟨o,m⟩
theorem LoP.some {x:Va}{d:Nat}{w:World}{e:Ending}{w':World}(h:fI x=Option.some d)(m:e=.returned (.tuple #[.int .i64 (d:Nat),.bool true]))(o:Below w.heap.size w w'):LoP x w e w':=by
 unfold LoP
 rw[h]
 exact⟨o,m⟩
def tY (n:Nat):Prop:=∀(x:Va),eX x.items<n->∀(ok:Nat->Prop) (a1 a2:Option Addr) (c1 c2:Nat) (w:World),Va.sm x->fu ok w x a1 c1 a2 c2->Calls Tryz.prog 50 #[.agg #[.int .u8 (x.h.kind:Nat),.bool x.h.b,.int .i64 x.h.n,.int .u64 (x.h.bits:Nat),.string x.h.text,.slice a1 x.h.keys.length c1,.slice a2 x.items.len c2]] w (LoP x w)
theorem xg (n:Nat)(ih:tY n):tY (n+1):=by
 intro x hn ok a1 a2 c1 c2 w au hv
 have PC:Hid (∀W,Below w.heap.size w W->Calls Tryz.prog 90 #[.agg #[.int .u8 (x.h.kind:Nat),.bool x.h.b,.int .i64 x.h.n,.int .u64 (x.h.bits:Nat),.string x.h.text,.slice a1 x.h.keys.length c1,.slice a2 x.items.len c2]] W λe w'=>e=.returned (.bool (eW x.h x.items.len))/\Below W.heap.size W w'):=λW hW=>
  pg x au (λb=>ok b/\b<w.heap.size) a1 a2 c1 c2 W (hv.lt.kept (λb I=>hW.block b I.2))
 have aG:=eS x.items
 obtain⟨-,av,aH⟩:=au
 obtain⟨a',c',ar,-,-,h3⟩:=gb.rest hv.2
 obtain⟨rfl,rfl⟩:a2=a'/\c2=c':=by cases ar;exact⟨rfl,rfl⟩
 have HX:=AF h3
 have az:=AF av
 have IH:=AF ih
 obtain⟨pl,ai⟩:∃pl,eW x.h x.items.len=pl:=⟨_,rfl⟩
 have ao:Hid (fI x=if pl=true then gO x.items (if 6<=x.h.kind then 1 else 0)else none):=by unfold Hid fI;rw[ai]
 rw[ai]at PC
 clear h3 av ih hv ar ai
 have K:Hid (Below w.heap.size w (w.alloc (.cells (d9 x.h (.slice a1 x.h.keys.length c1) (.slice a2 x.items.len c2)) 31))):=(AH _ w).alloc (AG _) _
 have ae:Hid ((w.alloc (.cells (d9 x.h (.slice a1 x.h.keys.length c1) (.slice a2 x.items.len c2)) 31)).heap.size=w.heap.size+1):=by unfold Hid;simp
 have ay:Hid (∀W,Below (w.heap.size+1) (w.alloc (.cells (d9 x.h (.slice a1 x.h.keys.length c1) (.slice a2 x.items.len c2)) 31)) W->zl w.heap.size x.h (.slice a1 x.h.keys.length c1) (.slice a2 x.items.len c2) W):=λW hW=>fR ((hW.block _ (by omega)).trans (heap_alloc_new w _))
 unfold d9 at K ae ay
 go_enter Tryz.func50,Tryz.ntmps50
 go_wp2_with fail
 generalize aF:World.alloc w _=W0 at*
 clear aF
 refine(PC.out _ K.out).mono ?_
 rintro e w1 ⟨rfl,ax⟩
 have M:Hid (Below (w.heap.size+1) W0 w1):=ax.mono (by rw[ae.out];exact AG _)
 clear ax PC
 cases pl with
 | false=>
   have HN:Hid (fI x=none):=by unfold Hid;rw[ao.out];rfl
   go_wp2_with fail
   go_ret2
   exact LoP.none HN.out rfl (K.out.trans (M.out.mono (by omega)))
 | true=>
   obtain⟨m0,U⟩:∃m0:Nat,(if 6<=x.h.kind then 1 else 0)=m0:=⟨_,rfl⟩
   have af:Hid (fI x=gO x.items m0):=by unfold Hid;rw[ao.out,if_pos rfl,U]
   clear ao
   obtain⟨p0,p1,p2,p3,p4,p5,p6⟩:=ay.out _ M.out
   go_upto_region 4 with(fail)
   by_cases h6:6<=x.h.kind
   · rw[if_pos h6]at U
     subst U
     have ak:(6:Int)<=(x.h.kind:Int):=by omega
     go_wp2_with fail
     go_loopw [4,20] (λv4 i wr=>∃(m k:Nat) (r:Vl),v4=.int .i64 (m:Nat)/\i=.int .i64 (k:Nat)/\k+r.len=x.items.len/\Hid (fI x=gO r m)/\m<=16777219/\Hid (Below (w.heap.size+1) W0 wr)/\Hid (jE ok a2 w r k)/\eX r<=eX x.items/\Hid (smX r)) (λ_ k _=>x.items.len - (intOf k).toNat)
     case atStart=>exact⟨1,0,x.items,rfl,rfl,by omega,af,by omega,M,HX,AG _,az⟩
     case round=>
      clear M p0 p1 p2 p3 p4 p5 p6 ak
      obtain⟨m,k,r,rfl,rfl,hk,HM,aC,HB,HR,aj,HF⟩:=hrel
      have J:Hid (Below w.heap.size w wr):=K.out.trans (HB.out.mono (by omega))
      have aB:=J.out.size
      cases r with
      | nil=>
        simp only[Vl.len]at hk
        have aE:¬(k:Int)<(x.items.len:Int):=by omega
        have HD:Hid (fI x=some m):=HM.out
        go_wp2_with fail
        go_ret2
        exact LoP.some HD.out rfl J.out
      | cons g A r=>
        simp only[Vl.len]at hk
        simp only[eX]at aj
        have aw:(k:Int)<(x.items.len:Int):=by omega
        have aD:(0:Int)<=(k:Int):=by omega
        obtain⟨b,o,rfl,I,E⟩:=HR.out (by simp)
        have an:Hid (jE ok (some ⟨b,o,none⟩) w r (k+1)):=λ_=>⟨b,o,rfl,I,by have:=E.2.2;rwa[show o+k*7+7=o+(k+1)*7 by omega]at this⟩
        obtain⟨⟨c0,am,al,c3,c4,v5,c5,G⟩,⟨ag,cg,c6,k1,k2,k3⟩,-⟩:=fF.kept (λb I=>J.out.block b I.2) _ _ _ I E
        obtain⟨R,O,N⟩:=HF.out
        have aq:=AF N
        have ab:Hid (fI x=match fI ⟨g,A⟩with | none=>none | some d=>gO r (max m (d+1))):=by unfold Hid;rw[HM.out,jR];rfl
        have V:∀d,fI ⟨g,A⟩=some d->d<=16777217:=λd hd=>by have:=sJ hd;have e:(⟨g,A⟩:Va).items=A:=rfl;rw[e]at this;omega
        obtain⟨aa,Z,rfl⟩:=G.cases
        have KC:Hid (∀W,Below wr.heap.size wr W->Calls Tryz.prog 50 #[.agg #[.int .u8 (g.kind:Nat),.bool g.b,.int .i64 g.n,.int .u64 (g.bits:Nat),.string g.text,.slice aa g.keys.length Z,.slice ag A.len cg]] W (LoP ⟨g,A⟩ W)):=λW hW=>
         IH.out ⟨g,A⟩ (by show eX A<n;omega) (λb=>ok b/\b<w.heap.size) _ _ _ _ W ⟨R,O,by show eX A<=_;omega⟩ (fu.kept ⟨G,ag,cg,rfl,k1,k2,k3⟩ (λb I=>hW.block b (by have:=I.2;omega)))
        have HA:Hid (Below wr.heap.size wr (wr.alloc (.cells #[.int .u8 (g.kind:Nat),.bool g.b,.int .i64 g.n,.int .u64 (g.bits:Nat),.string g.text,.slice aa g.keys.length Z,.slice ag A.len cg] 31))):=(AH _ wr).alloc (AG _) _
        have ac:=AF hk
        have ap:=AF V
        have ah:w.heap.size+1<=wr.heap.size:=by have:=HB.out.size;rw[ae.out]at this;exact this
        clear k3 E R O N hk G V
        go_wp2_with fail
        refine(KC.out _ HA.out).mono ?_
        rintro e w3 ⟨Y,he⟩
        have ad:Hid (Below (w.heap.size+1) W0 w3):=HB.out.trans ((HA.out.mono ah).trans (Y.mono (by simp;omega)))
        clear Y KC c0 am al c3 c4 c5 c6
        generalize hL:fI ⟨g,A⟩=L at*
        cases L with
        | none=>
          obtain rfl:=he
          have HD:Hid (fI x=none):=ab.out
          go_wp2_with fail
          go_ret2
          exact LoP.none HD.out rfl (K.out.trans (ad.out.mono (by omega)))
        | some d=>
          obtain rfl:=he
          have hd:=ap.out d rfl
          have aA:IntKind.i64.wrap ((d:Int)+1)=(d:Int)+1:=IntWalk.i64_in _ ⟨by omega,by omega⟩
          have HD:Hid (fI x=gO r (max m (d+1))):=ab.out
          go_wp2_with fail
          go_roundw
          case rel=>exact⟨max m (d+1),k+1,r,by congr 1;omega,by go_num,by have:=ac.out;omega,HD,by omega,ad,an,by omega,aq⟩
          case measure=>simp[intOf];have:=ac.out;omega
   · rw[if_neg h6]at U
     subst U
     have ak:¬(6:Int)<=(x.h.kind:Int):=by omega
     go_wp2_with fail
     go_loopw [4,20] (λv4 i wr=>∃(m k:Nat) (r:Vl),v4=.int .i64 (m:Nat)/\i=.int .i64 (k:Nat)/\k+r.len=x.items.len/\Hid (fI x=gO r m)/\m<=16777219/\Hid (Below (w.heap.size+1) W0 wr)/\Hid (jE ok a2 w r k)/\eX r<=eX x.items/\Hid (smX r)) (λ_ k _=>x.items.len - (intOf k).toNat)
     case atStart=>exact⟨0,0,x.items,rfl,rfl,by omega,af,by omega,M,HX,AG _,az⟩
     case round=>
      clear M p0 p1 p2 p3 p4 p5 p6 ak
      obtain⟨m,k,r,rfl,rfl,hk,HM,aC,HB,HR,aj,HF⟩:=hrel
      have J:Hid (Below w.heap.size w wr):=K.out.trans (HB.out.mono (by omega))
      have aB:=J.out.size
      cases r with
      | nil=>
        simp only[Vl.len]at hk
        have aE:¬(k:Int)<(x.items.len:Int):=by omega
        have HD:Hid (fI x=some m):=HM.out
        go_wp2_with fail
        go_ret2
        exact LoP.some HD.out rfl J.out
      | cons g A r=>
        simp only[Vl.len]at hk
        simp only[eX]at aj
        have aw:(k:Int)<(x.items.len:Int):=by omega
        have aD:(0:Int)<=(k:Int):=by omega
        obtain⟨b,o,rfl,I,E⟩:=HR.out (by simp)
        have an:Hid (jE ok (some ⟨b,o,none⟩) w r (k+1)):=λ_=>⟨b,o,rfl,I,by have:=E.2.2;rwa[show o+k*7+7=o+(k+1)*7 by omega]at this⟩
        obtain⟨⟨c0,am,al,c3,c4,v5,c5,G⟩,⟨ag,cg,c6,k1,k2,k3⟩,-⟩:=fF.kept (λb I=>J.out.block b I.2) _ _ _ I E
        obtain⟨R,O,N⟩:=HF.out
        have aq:=AF N
        have ab:Hid (fI x=match fI ⟨g,A⟩with | none=>none | some d=>gO r (max m (d+1))):=by unfold Hid;rw[HM.out,jR];rfl
        have V:∀d,fI ⟨g,A⟩=some d->d<=16777217:=λd hd=>by have:=sJ hd;have e:(⟨g,A⟩:Va).items=A:=rfl;rw[e]at this;omega
        obtain⟨aa,Z,rfl⟩:=G.cases
        have KC:Hid (∀W,Below wr.heap.size wr W->Calls Tryz.prog 50 #[.agg #[.int .u8 (g.kind:Nat),.bool g.b,.int .i64 g.n,.int .u64 (g.bits:Nat),.string g.text,.slice aa g.keys.length Z,.slice ag A.len cg]] W (LoP ⟨g,A⟩ W)):=λW hW=>
         IH.out ⟨g,A⟩ (by show eX A<n;omega) (λb=>ok b/\b<w.heap.size) _ _ _ _ W ⟨R,O,by show eX A<=_;omega⟩ (fu.kept ⟨G,ag,cg,rfl,k1,k2,k3⟩ (λb I=>hW.block b (by have:=I.2;omega)))
        have HA:Hid (Below wr.heap.size wr (wr.alloc (.cells #[.int .u8 (g.kind:Nat),.bool g.b,.int .i64 g.n,.int .u64 (g.bits:Nat),.string g.text,.slice aa g.keys.length Z,.slice ag A.len cg] 31))):=(AH _ wr).alloc (AG _) _
        have ac:=AF hk
        have ap:=AF V
        have ah:w.heap.size+1<=wr.heap.size:=by have:=HB.out.size;rw[ae.out]at this;exact this
        clear k3 E R O N hk G V
        go_wp2_with fail
        refine(KC.out _ HA.out).mono ?_
        rintro e w3 ⟨Y,he⟩
        have ad:Hid (Below (w.heap.size+1) W0 w3):=HB.out.trans ((HA.out.mono ah).trans (Y.mono (by simp;omega)))
        clear Y KC c0 am al c3 c4 c5 c6
        generalize hL:fI ⟨g,A⟩=L at*
        cases L with
        | none=>
          obtain rfl:=he
          have HD:Hid (fI x=none):=ab.out
          go_wp2_with fail
          go_ret2
          exact LoP.none HD.out rfl (K.out.trans (ad.out.mono (by omega)))
        | some d=>
          obtain rfl:=he
          have hd:=ap.out d rfl
          have aA:IntKind.i64.wrap ((d:Int)+1)=(d:Int)+1:=IntWalk.i64_in _ ⟨by omega,by omega⟩
          have HD:Hid (fI x=gO r (max m (d+1))):=ab.out
          go_wp2_with fail
          go_roundw
          case rel=>exact⟨max m (d+1),k+1,r,by congr 1;omega,by go_num,by have:=ac.out;omega,HD,by omega,ad,an,by omega,aq⟩
          case measure=>simp[intOf];have:=ac.out;omega
theorem yK (n:Nat):tY n:=by
 induction n with
 | zero=>intro x h;exact absurd h (Nat.not_lt_zero _)
 | succ n m=>exact xg n m
theorem rh (x:Va)(ok:Nat->Prop)(a1 a2:Option Addr)(c1 c2:Nat)(w:World)(o:Va.sm x)(m:fu ok w x a1 c1 a2 c2):Calls Tryz.prog 50 #[.agg #[.int .u8 (x.h.kind:Nat),.bool x.h.b,.int .i64 x.h.n,.int .u64 (x.h.bits:Nat),.string x.h.text,.slice a1 x.h.keys.length c1,.slice a2 x.items.len c2]] w (LoP x w):=
 yK (eX x.items+1) x (Nat.lt_succ_self _) ok a1 a2 c1 c2 w o m
theorem nV (x:Va)(ok:Nat->Prop)(a1 a2:Option Addr)(c1 c2:Nat)(w:World)(I:Va.sm x)(G:fu ok w x a1 c1 a2 c2):Calls Tryz.prog 29 #[.agg #[.int .u8 (x.h.kind:Nat),.bool x.h.b,.int .i64 x.h.n,.int .u64 (x.h.bits:Nat),.string x.h.text,.slice a1 x.h.keys.length c1,.slice a2 x.items.len c2]] w λe w'=>e=.returned (.int .i64 (jg x:Nat))/\Below w.heap.size w w':=by
 have K:Hid (∀W,Below w.heap.size w W->Calls Tryz.prog 50 #[.agg #[.int .u8 (x.h.kind:Nat),.bool x.h.b,.int .i64 x.h.n,.int .u64 (x.h.bits:Nat),.string x.h.text,.slice a1 x.h.keys.length c1,.slice a2 x.items.len c2]] W (LoP x W)):=λW N=>
  rh x (λb=>ok b/\b<w.heap.size) a1 a2 c1 c2 W I (G.lt.kept (λb M=>N.block b M.2))
 have E:=AF (vs x)
 have r:Hid (Below w.heap.size w (w.alloc (.cells (d9 x.h (.slice a1 x.h.keys.length c1) (.slice a2 x.items.len c2)) 31))):=(AH _ w).alloc (AG _) _
 unfold d9 at r
 clear G I
 go_enter Tryz.func29,Tryz.ntmps29
 go_wp2_with fail
 refine(K.out _ r.out).mono ?_
 rintro e w1 ⟨A,J⟩
 have o:Hid (Below w.heap.size w w1):=r.out.trans (A.mono (by simp))
 clear A K
 generalize fI x=L at*
 cases L with
 | none=>
   obtain rfl:=J
   have m:Hid (jg x=160):=E.out
   go_wp2_with fail
   go_ret
   exact⟨by rw[m.out];rfl,o.out⟩
 | some d=>
   obtain rfl:=J
   by_cases h:d>64
   · have m:Hid (jg x=161):=by unfold Hid;rw[E.out];simp[h]
     have O:(64:Int)<(d:Int):=by omega
     go_wp2_with fail
     go_ret
     exact⟨by rw[m.out];rfl,o.out⟩
   · have m:Hid (jg x=0):=by unfold Hid;rw[E.out];simp[h]
     have O:¬(64:Int)<(d:Int):=by omega
     go_wp2_with fail
     go_ret
     exact⟨by rw[m.out];rfl,o.out⟩
end Go.Proofs.YtepcpgdfbaklfaaGreatDoor
