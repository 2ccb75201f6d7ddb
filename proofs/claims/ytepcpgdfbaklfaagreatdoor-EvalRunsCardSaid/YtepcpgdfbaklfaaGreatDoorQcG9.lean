/- The contracts of runner.part and runner.parts, for every depth. No condition but the run's form in memory and what yield does. -/
import Derived.Test.YtepcpgdfbaklfaaGreatDoorQcG6
import Derived.Test.YtepcpgdfbaklfaaGreatDoorG8Q
import Derived.Test.YtepcpgdfbaklfaaGreatDoorQcF8
import Derived.Test.YtepcpgdfbaklfaaGreatDoorQcTac2
set_option maxRecDepth 100000
set_option maxHeartbeats 40000000
set_option linter.unusedSimpArgs false
set_option linter.unusedVariables false
namespace Go.Proofs.YtepcpgdfbaklfaaGreatDoor
open Go.RowKit Go.Shelf Ev
theorem pA:∀(l:List ByteArray) (v x:Va),eU l v=.ok x->Va.sm v->Va.sm x
 | [],v,x,h,m=>by cases h;exact m
 | n::r,v,x,h,m=>by
   unfold eU at h
   split at h
   · split at h
     · split at h
       · rename_i y o
         exact pA r y x h (Va.sm_get m o)
       · cases h
     · cases h
   · cases h
theorem pC (D:ByteArray->Pt)(C n:Nat)(dot root:Va)(deep:Nat)(h:Hd)(k e:Pt):evF D C n dot root deep h k e 0=⟨[],0,some (202,h.pos)⟩:=by
 cases n <;> rfl
theorem ti (D:ByteArray->Pt)(C n:Nat)(dot root:Va)(deep:Nat)(h:Hd)(k e:Pt)(f:Nat)(m:h.kind=1):evF D C (n+1) dot root deep h k e (f+1)=⟨[⟨h.pos,false,fS,h.text⟩],f,none⟩:=by
 simp only[evF,iu,m,if_true]
theorem tj (D:ByteArray->Pt)(C n:Nat)(dot root:Va)(deep:Nat)(h:Hd)(k e:Pt)(f:Nat)(m:h.kind=2):evF D C (n+1) dot root deep h k e (f+1)=match eU h.names (if h.root then root else dot)with | .error x=>⟨[],f,some (x,h.pos)⟩ | .ok v=>⟨[⟨h.pos,true,v,.empty⟩],f,none⟩:=by
 simp only[evF,iu,m]
 rfl
theorem yV (D:ByteArray->Pt)(C n:Nat)(dot root:Va)(deep:Nat)(h:Hd)(k e:Pt)(f:Nat)(m:h.kind=3):evF D C (n+1) dot root deep h k e (f+1)=ifF D C n dot root deep h k e f:=by
 simp only[evF,iu,m,ifF]
 rfl
theorem kE (D:ByteArray->Pt)(C n:Nat)(dot root:Va)(deep:Nat)(h:Hd)(k e:Pt)(f:Nat)(m:h.kind=4):evF D C (n+1) dot root deep h k e (f+1)=gI D C n dot root deep h k e f:=by
 simp only[evF,iu,m,gI]
 rfl
theorem pD (D:ByteArray->Pt)(C n:Nat)(dot root:Va)(deep:Nat)(h:Hd)(k e:Pt)(f:Nat)(m:h.kind=0\/4<h.kind):evF D C (n+1) dot root deep h k e (f+1)=lx D C n dot root deep h f:=by
 simp only[evF,iu,lx]
 rw[if_neg (by omega)]
 cases eU h.names (if h.root then root else dot)with
 | error x=>rfl
 | ok v=>
   dsimp only
   rw[if_neg (by omega),if_neg (by omega),if_neg (by omega)]
theorem mF (D:ByteArray->Pt)(C l rb U:Nat)(J:(Nat->Prop)->List It->World->Prop)(HJ:pP J)(HY:mq l U J)(n:Nat)(hp:gw D C l rb U J n):m7 D C l rb U J (n+1):=by
 intro dot root h V el deep f S r W a1 a2 a3 a4 an ak ae c1 c2 c3 c4 cn ck ce aa o M G E I N O m hJ K A Y Z
 cases f with
 | zero=>
   rw[pC]
   exact nI D C l rb U J HJ dot root h V el deep S r W a1 a2 a3 a4 an ak ae c1 c2 c3 c4 cn ck ce o M G E I N O m hJ K A Y Z
 | succ f=>
   have R:f<=n:=Nat.le_of_succ_le_succ aa
   by_cases k1:h.kind=1
   · rw[ti _ _ _ _ _ _ _ _ _ _ k1]
     exact sw D C l rb U J HJ HY dot root h V el deep f S r W a1 a2 a3 a4 an ak ae c1 c2 c3 c4 cn ck ce o M G E I N O m hJ K A Y Z k1
   by_cases k2:h.kind=2
   · rw[tj _ _ _ _ _ _ _ _ _ _ k2]
     exact sx D C l rb U J HJ HY dot root h V el deep f S r W a1 a2 a3 a4 an ak ae c1 c2 c3 c4 cn ck ce o M G E I N O m hJ K A Y Z k2
   by_cases k3:h.kind=3
   · rw[yV _ _ _ _ _ _ _ _ _ _ k3]
     exact wU D C l rb U J HJ n hp dot root h V el deep f S r W a1 a2 a3 a4 an ak ae c1 c2 c3 c4 cn ck ce R o M G E I N O m hJ K A Y Z k3
   by_cases k4:h.kind=4
   · rw[kE _ _ _ _ _ _ _ _ _ _ k4]
     exact ra D C l rb U J HJ n hp dot root h V el deep f S r W a1 a2 a3 a4 an ak ae c1 c2 c3 c4 cn ck ce R o M G E I N O m hJ K A Y Z k4
   · have k5:h.kind=0\/4<h.kind:=by omega
     rw[pD _ _ _ _ _ _ _ _ _ _ k5]
     exact sy D C l rb U J HJ n hp dot root h V el deep f S r W a1 a2 a3 a4 an ak ae c1 c2 c3 c4 cn ck ce R o M G E I N O m hJ K A Y Z k5
theorem su (D:ByteArray->Pt)(C l rb U:Nat)(J:(Nat->Prop)->List It->World->Prop)(HJ:pP J):m7 D C l rb U J 0:=by
 intro dot root h V el deep f S r W a1 a2 a3 a4 an ak ae c1 c2 c3 c4 cn ck ce M o N G E I O R m hJ K A Y Z
 obtain rfl:f=0:=Nat.le_zero.1 M
 rw[pC]
 exact nI D C l rb U J HJ dot root h V el deep S r W a1 a2 a3 a4 an ak ae c1 c2 c3 c4 cn ck ce o N G E I O R m hJ K A Y Z
theorem iM (D:ByteArray->Pt)(C l rb m:Nat)(J:(Nat->Prop)->List It->World->Prop)(o:pP J)(r:mq l m J):∀n,gw D C l rb m J n
 | 0=>jp D C l rb m J o 0 (su D C l rb m J o)
 | n+1=>jp D C l rb m J o (n+1) (mF D C l rb m J o r n (iM D C l rb m J o r n))
open Go.RowKit Go.Shelf Ev Go.ChangeMaps Go.MapKept
attribute [local go_sem ↓] Go.wp_at_zero Go.wp_at_succ
theorem wZ (a b:ByteArray):Instr.sameNow .string (.string a) (.string b)=some (decide (a=b)):=by
 have h:Instr.sameNow .string (.string a) (.string b)=some (a==b):=rfl
 rw[h]
 congr 1
 rw[Bool.eq_iff_iff,decide_eq_true_eq]
 simp[MapKept.bytes_beq]
theorem iR (k s:ByteArray)(v:Value)(c:Nat):∀(l:List MapEntry) (i:Nat),Instr.findNow .string (.string k) l i=some none->
 Instr.findNow .string (.string k) (l++[⟨.string s,v,c⟩]) i=if k=s then some (some (i+l.length,v))else some none
 | [],i,_=>by
   simp only[List.nil_append,Instr.findNow,wZ,List.length_nil,Nat.add_zero]
   by_cases h:k=s
   · rw[if_pos h,decide_eq_true h]
   · rw[if_neg h,decide_eq_false h]
 | e::l,i,h=>by
   simp only[List.cons_append,Instr.findNow]at h ⊢
   split at h
   · cases h
   · rename_i m
     rw[iR k s v c l (i+1) h,List.length_cons,show i+1+l.length=i+(l.length+1) by omega]
   · cases h
theorem iQ (k:ByteArray)(m:MapEntry)(r:Nat×Value):∀(l:List MapEntry) (i:Nat),Instr.findNow .string (.string k) l i=some (some r)->
 Instr.findNow .string (.string k) (l++[m]) i=some (some r)
 | [],i,h=>by simp[Instr.findNow]at h
 | e::l,i,h=>by
   simp only[List.cons_append,Instr.findNow]at h ⊢
   split at h
   · exact h
   · rename_i o
     exact iQ k m r l (i+1) h
   · cases h
theorem gP {n:ByteArray}(d:Df):∀(l:List Df),(∃x∈l,x.name=n)->ff (l++[d]) n=ff l n
 | [],h=>by obtain⟨x,hx,-⟩:=h;cases hx
 | x::r,h=>by
   rw[List.cons_append,ff,ff]
   by_cases hx:x.name=n
   · rw[if_pos hx,if_pos hx]
   · rw[if_neg hx,if_neg hx]
     obtain⟨y,m,o⟩:=h
     rcases List.mem_cons.1 m with rfl | m
     · exact absurd o hx
     · exact gP d r ⟨y,m,o⟩
theorem gQ {n:ByteArray}(d:Df):∀(l:List Df),(∀x∈l,x.name≠n)->ff (l++[d]) n=if d.name=n then d.kids else .nil
 | [],_=>rfl
 | x::r,h=>by
   rw[List.cons_append,ff,if_neg (h x (by simp))]
   exact gQ d r λy m=>h y (by simp[m])
def oN (l:List Df)(ok:Nat->Prop)(M:Nat)(w:World):Prop:=∃o m,w.heap[M]? =some (.map o m)/\∀n:ByteArray,
 ((∃x∈l,x.name=n)/\∃i a c,Instr.findNow .string (.string n) o.toList 0=some (some (i,.slice a (ff l n).len c))/\d8 ok w (.slice a (ff l n).len c) (ff l n))\/((∀x∈l,x.name≠n)/\Instr.findNow .string (.string n) o.toList 0=some none)
theorem oN.step {l:List Df}{ok ok':Nat->Prop}{M:Nat}{W r:World}(h:oN l ok M W)(E:r.heap[M]? =W.heap[M]?)(G:eL ok W r)(A:∀b,ok b->ok' b):oN l ok' M r:=by
 obtain⟨O,m,K,J⟩:=h
 refine⟨O,m,E.trans K,λn=> ?_⟩
 rcases J n with⟨N,i,a,c,o,I⟩ | o
 · exact .inl ⟨N,i,a,c,o,(I.kept G).mono A⟩
 · exact .inr o
theorem oN.lt {l:List Df}{ok:Nat->Prop}{M:Nat}{W:World}(h:oN l ok M W):M<W.heap.size:=by
 obtain⟨r,m,o,-⟩:=h
 exact dX o
theorem oN.mapD {l:List Df}{ok:Nat->Prop}{M:Nat}{W:World}(h:oN l ok M W):tX (ff l) ok M W:=by
 obtain⟨G,m,E,A⟩:=h
 refine⟨G,m,E,λn=> ?_⟩
 rcases A n with⟨r,o⟩ | ⟨r,o⟩
 · exact .inl o
 · exact .inr ⟨o,om l r⟩
theorem oN.made (ok:Nat->Prop)(w:World):oN [] ok w.heap.size (w.alloc (.map #[] 0)):=
 ⟨#[],0,(MapKept.heap_alloc w _).1,λn=>.inr ⟨(λx hx=>by cases hx),rfl⟩⟩
theorem oN.put {l:List Df}{ok:Nat->Prop}{M:Nat}{w:World}(h:oN l ok M w)(Y:¬ok M)(d:Df)(r:∀x∈l,x.name≠d.name)(I:Option Addr)(G:Nat)(V:d8 ok w (.slice I d.kids.len G) d.kids):
 ∃w',(Instr.mapUpdate 113 (.map (some M)) (.string d.name) (.slice I d.kids.len G)).run Tryz.prog w=.ok () w'/\oN (l++[d]) ok M w'/\∀B w0,B<=M->Below B w0 w->Below B w0 w':=by
 obtain⟨E,m,K,U⟩:=h
 have W:Instr.findNow .string (.string d.name) E.toList 0=some none:=by
  rcases U d.name with⟨⟨x,hx,N⟩,-⟩ | ⟨-,A⟩
  · exact absurd N (r x hx)
  · exact A
 refine⟨_,lS 113 9 22 M m E d.name _ Tryz.underlying113 Tryz.underlying9 K W,?_,λB w0 hB O=>iS O hB _ _ _ K⟩
 have R:eL ok w (setBlock w M (.map (E.push {key:=.string d.name,val:=.slice I d.kids.len G,born:=m}) (m+1))):=λb O=>heap_setBlock_other K _ (λe=>Y (e ▸ O))
 refine⟨_,_,heap_setBlock_same K _,λn=> ?_⟩
 rw[Array.toList_push]
 rcases U n with⟨o,i,a,c,A,Z⟩ | ⟨o,A⟩
 · left
   refine⟨?_,i,a,c,?_,?_⟩
   · obtain⟨x,hx,N⟩:=o
     exact⟨x,List.mem_append_left _ hx,N⟩
   · rw[gP d l o]
     exact iQ n _ _ _ _ A
   · rw[gP d l o]
     exact Z.kept R
 · have J:=iR n d.name (.slice I d.kids.len G) m E.toList 0 A
   by_cases e:d.name=n
   · left
     refine⟨⟨d,by simp,e⟩,0+E.toList.length,I,G,?_,?_⟩
     · rw[gQ d l o,if_pos e]
       rw[if_pos e.symm]at J
       exact J
     · rw[gQ d l o,if_pos e]
       exact V.kept R
   · right
     refine⟨?_,?_⟩
     · intro x hx
       rcases List.mem_append.1 hx with hx | hx
       · exact o x hx
       · rw[List.mem_singleton.1 hx];exact e
     · rw[if_neg (λx=>e x.symm)]at J
       exact J
theorem rg {k:Nat}{d:Df}{l:List Df}(A:twice (l.map λd=>bl d.name)=false)(o:l[k]? =some d):∀x∈l.take k,x.name≠d.name:=by
 intro x hx e
 have m:=(List.getElem?_eq_some_iff.1 o).1
 have E:l=l.take k++([d]++l.drop (k+1)):=by
  rw[<-(List.getElem?_eq_some_iff.1 o).2,List.singleton_append,←List.drop_eq_getElem_cons m,List.take_append_drop]
 have G:twice ((l.take k).map (λd=>bl d.name)++[bl d.name])=true:=by
  rw[fj,Bool.or_eq_true]
  right
  rw[List.contains_iff_mem]
  exact List.mem_map.2 ⟨x,hx,by rw[e]⟩
 have r:=lP _ ((l.drop (k+1)).map λd=>bl d.name) G
 have:(l.map λd=>bl d.name)=((l.take k).map (λd=>bl d.name)++[bl d.name])++(l.drop (k+1)).map λd=>bl d.name:=by
  conv=>lhs;rw[E]
  simp
 rw[<-this,A]at r
 cases r
theorem iG (m:Nat)(f:Int):max (min f (m:Int)) 0=((eG m f:Nat):Int):=by unfold eG;omega
def PcE (r:Ev.Rs)(J:(Nat->Prop)->List It->World->Prop)(S:Nat->Prop)(W:World)(e:Ending)(o:World):Prop:=
 ∃A m,J A m o/\Off (λb=>b<W.heap.size/\¬S b) W o/\m.map It.pc=r.out/\((∃v,e=.returned v/\r.err=none)\/(∃n p,e=.panicked (iL n p)/\r.err=some (n,p)))
theorem mE (t:Tm)(hz:TmZ t)(aa:twice (t.defs.map λd=>bl d.name)=false)(v:Va)(aj:Va.sm v)(fuel calls:Int)(l:Nat)(J:(Nat->Prop)->List It->World->Prop)(HJ:pP J)(S:Nat->Prop)(W:World)(HY:mq l W.heap.size J)(hS:∀b,S b->b<W.heap.size)(hJ:J S [] W)
 (am ad a1 a2:Option Addr) (cm cd c1 c2 tb N fb cb:Nat) (ht:W.heap[tb]? =some (.cells #[.slice am t.main.len cm,.slice ad t.defs.length cd] 25 (0,0)))
 (hv:W.heap[N]? =some (.cells #[.int .u8 (v.h.kind:Nat),.bool v.h.b,.int .i64 v.h.n,.int .u64 (v.h.bits:Nat),.string v.h.text,.slice a1 v.h.keys.length c1,.slice a2 v.items.len c2] 31 (0,0)))
 (hf:W.heap[fb]? =some (.cells #[.int .i64 fuel] 3 (0,0))) (hc:W.heap[cb]? =some (.cells #[.int .i64 calls] 3 (0,0)))
 (hm:d8 (λb=>b<W.heap.size/\¬S b) W (.slice am t.main.len cm) t.main) (hd:fU (λb=>b<W.heap.size/\¬S b) W (.slice ad t.defs.length cd) t.defs) (A:fu (λb=>b<W.heap.size/\¬S b) W v a1 c1 a2 c2):
 Calls Tryz.prog 51 #[.func (.yield l) #[] #[],.pointer (some ⟨tb,0,none⟩),.pointer (some ⟨N,0,none⟩),.pointer (some ⟨fb,0,none⟩),.pointer (some ⟨cb,0,none⟩)] W (PcE (pY (ff t.defs) (eG 256 calls) t.main v (eG 1000000 fuel)) J S W):=by
 obtain⟨main,defs⟩:=t
 obtain⟨z1,z2,z3,z4,-⟩:=hz
 dsimp only at z1 z2 z3 z4 ht hm hd aa ⊢
 obtain⟨a,c,E,h1,h2,h3⟩:=hd
 cases E
 have H3:=AF h3
 have aK:=AF aa
 have ay:=AF HJ
 have aI:=AF HY
 have aT:=AF hJ
 have aL:=AF hS
 have HM:=AF hm
 have aJ:=AF A
 have ar:=AF aj
 have aH:=AF z1
 have aG:=AF z2
 have aq:=AF z3
 have HT:=AF ht
 have HV:=AF hv
 have HF:=AF hf
 have HC:=AF hc
 have ai:=dX ht
 have ag:=dX hv
 have an:=dX hf
 have ao:=dX hc
 have aZ:= @run_makeMap Tryz.prog
 have aQ:Hid (oN [] (λb=>b<W.heap.size/\¬S b) W.heap.size (W.alloc (.map #[] 0))):=oN.made _ W
 have aW:Hid (Below W.heap.size W (W.alloc (.map #[] 0))):=(AH _ W).alloc (AG _) _
 have x1:(W.alloc (.map #[] 0)).cell? ⟨tb,1,none⟩=some (.slice ad defs.length cd):=by rw[dW ((Below.heap_alloc _ _ _ ai).trans ht)];rfl
 clear h3 aa HJ HY hJ hS hm A aj z1 z2 z3 ht hv hf hc
 go_enter Tryz.func51,Tryz.ntmps51
 go_wp2_with fail
 clear x1
 generalize aF:World.alloc W _=W1 at*
 clear aF
 go_loopw [14] (λi wr=>∃k:Nat,i=.int .i64 (k:Nat)/\k<=defs.length/\Hid (oN (defs.take k) (λb=>b<W.heap.size/\¬S b) W.heap.size wr)/\Hid (Below W.heap.size W wr)) (λi _=>defs.length - (intOf i).toNat)
 case atStart=>exact⟨0,rfl,Nat.zero_le _,aQ,aW⟩
 case round=>
  obtain⟨k,rfl,hk,HK,I⟩:=hrel
  have hM:=HK.out.lt
  by_cases O:k<defs.length
  · have aX:(k:Int)<(defs.length:Int):=by omega
    obtain⟨d,R⟩:∃d,defs[k]? =some d:=⟨_,List.getElem?_eq_getElem O⟩
    obtain⟨b,o,rfl,⟨aD,aC⟩,V⟩:=H3.out (by intro e;rw[e]at O;simp at O)
    obtain⟨g0,g1,v',g2,ab⟩:=hZ.at _ _ _ _ _ R (V.kept (λb m=>I.out.block b m.1) _ _ _ ⟨aD,aC⟩)
    obtain⟨ak,ck,rfl,d1,d2,-⟩:=id ab
    have aw:=rg aK.out R
    have a7:b<wr.heap.size:=by have:=I.out.size;omega
    have aU:Hid (Below W.heap.size W (wr.alloc (.cells #[.string d.name,.int .i64 d.pos,.slice ak d.kids.len ck] 70))):=I.out.alloc I.out.size _
    have ax:oN (defs.take k) (λb=>b<W.heap.size/\¬S b) W.heap.size (wr.alloc (.cells #[.string d.name,.int .i64 d.pos,.slice ak d.kids.len ck] 70)):=HK.out.step (Below.heap_alloc _ _ _ hM) (λb m=>Below.heap_alloc _ _ _ (by have:=I.out.size;have:=m.1;omega)) (λ_ h=>h)
    obtain⟨w4,aY,ae,ap⟩:=ax.put (by intro h;have:=h.1;omega) d aw ak ck (ab.kept (λb m=>Below.heap_alloc _ _ _ (by have:=I.out.size;have:=m.1;omega)))
    rw[show defs.take k++[d]=defs.take (k+1) by rw[List.take_add_one,R];rfl]at ae
    have aS:=AF ae
    have aV:=AF (ap _ _ (AG _) aU.out)
    clear ae ap ax ab aw V R O
    go_wp2_with fail
    go_roundw
    case rel=>exact⟨k+1,by go_num,by omega,aS,aV⟩
    case measure=>simp[intOf];omega
  · have a6:¬(k:Int)<(defs.length:Int):=by omega
    have aR:Hid (oN defs (λb=>b<W.heap.size/\¬S b) W.heap.size wr):=by have:=HK.out;rwa[List.take_of_length_le (by omega)]at this
    have aA:=I.out.size
    have r:Hid (wr.heap[N]? =some (.cells #[.int .u8 (v.h.kind:Nat),.bool v.h.b,.int .i64 v.h.n,.int .u64 (v.h.bits:Nat),.string v.h.text,.slice a1 v.h.keys.length c1,.slice a2 v.items.len c2] 31 (0,0))):=(I.out.block _ ag).trans HV.out
    have v0:wr.cell? ⟨N,0,none⟩=some (.int .u8 (v.h.kind:Nat)):=by rw[dW r.out];rfl
    have v1:wr.cell? ⟨N,1,none⟩=some (.bool v.h.b):=by rw[dW r.out];rfl
    have v2:wr.cell? ⟨N,2,none⟩=some (.int .i64 v.h.n):=by rw[dW r.out];rfl
    have v3:wr.cell? ⟨N,3,none⟩=some (.int .u64 (v.h.bits:Nat)):=by rw[dW r.out];rfl
    have v4:wr.cell? ⟨N,4,none⟩=some (.string v.h.text):=by rw[dW r.out];rfl
    have v5:wr.cell? ⟨N,5,none⟩=some (.slice a1 v.h.keys.length c1):=by rw[dW r.out];rfl
    have v6:wr.cell? ⟨N,6,none⟩=some (.slice a2 v.items.len c2):=by rw[dW r.out];rfl
    have f0:wr.cell? ⟨fb,0,none⟩=some (.int .i64 fuel):=by rw[dW ((I.out.block _ an).trans HF.out)];rfl
    have c0:wr.cell? ⟨cb,0,none⟩=some (.int .i64 calls):=by rw[dW ((I.out.block _ ao).trans HC.out)];rfl
    have t0:wr.cell? ⟨tb,0,none⟩=some (.slice am main.len cm):=by rw[dW ((I.out.block _ ai).trans HT.out)];rfl
    have ah:tb<wr.heap.size:=by omega
    have e1:=iG 1000000 fuel
    have e2:=iG 256 calls
    go_wp2_with fail
    clear v0 v1 v2 v3 v4 v5 v6 f0 c0 t0 ah e1 e2
    have aM:Hid (((wr.alloc (.cells #[.map (some W.heap.size),.int .i64 (max (min fuel 1000000) 0),.int .i64 (max (min calls 256) 0),.func (.yield l) #[] #[]] 118)).alloc (.cells #[.int .u8 (v.h.kind:Nat),.bool v.h.b,.int .i64 v.h.n,.int .u64 (v.h.bits:Nat),.string v.h.text,.slice a1 v.h.keys.length c1,.slice a2 v.items.len c2,.int .u8 (v.h.kind:Nat),.bool v.h.b,.int .i64 v.h.n,.int .u64 (v.h.bits:Nat),.string v.h.text,.slice a1 v.h.keys.length c1,.slice a2 v.items.len c2,.int .i64 0,.pointer (some ⟨wr.heap.size,0,none⟩)] 120)).heap.size=wr.heap.size+2):=by unfold Hid;simp
    have aN:Hid (((wr.alloc (.cells #[.map (some W.heap.size),.int .i64 (max (min fuel 1000000) 0),.int .i64 (max (min calls 256) 0),.func (.yield l) #[] #[]] 118)).alloc (.cells #[.int .u8 (v.h.kind:Nat),.bool v.h.b,.int .i64 v.h.n,.int .u64 (v.h.bits:Nat),.string v.h.text,.slice a1 v.h.keys.length c1,.slice a2 v.items.len c2,.int .u8 (v.h.kind:Nat),.bool v.h.b,.int .i64 v.h.n,.int .u64 (v.h.bits:Nat),.string v.h.text,.slice a1 v.h.keys.length c1,.slice a2 v.items.len c2,.int .i64 0,.pointer (some ⟨wr.heap.size,0,none⟩)] 120)).heap[wr.heap.size]? =some (kl W.heap.size (eG 1000000 fuel) (eG 256 calls) l)):=by
     unfold kl
     rw[<-iG,←iG]
     exact(Below.heap_alloc _ _ _ (by simp)).trans (heap_alloc_new wr _)
    have af:Hid (Below wr.heap.size wr ((wr.alloc (.cells #[.map (some W.heap.size),.int .i64 (max (min fuel 1000000) 0),.int .i64 (max (min calls 256) 0),.func (.yield l) #[] #[]] 118)).alloc (.cells #[.int .u8 (v.h.kind:Nat),.bool v.h.b,.int .i64 v.h.n,.int .u64 (v.h.bits:Nat),.string v.h.text,.slice a1 v.h.keys.length c1,.slice a2 v.items.len c2,.int .u8 (v.h.kind:Nat),.bool v.h.b,.int .i64 v.h.n,.int .u64 (v.h.bits:Nat),.string v.h.text,.slice a1 v.h.keys.length c1,.slice a2 v.items.len c2,.int .i64 0,.pointer (some ⟨wr.heap.size,0,none⟩)] 120))):=((AH _ wr).alloc (AG _) _).alloc (by simp) _
    generalize aE:World.alloc (World.alloc wr _) _=Z at*
    clear aE
    have G:Below W.heap.size W Z:=I.out.trans (af.out.mono aA)
    have ac:eL (λb=>b<W.heap.size/\¬S b) W Z:=λb m=>G.block b m.1
    have K:∀b,(b<W.heap.size/\¬S b)->okS S wr.heap.size Z b:=λb m=>⟨by have:=G.size;have:=m.1;omega,m.2,by have:=m.1;omega⟩
    have M:=aL.out
    have A:=(aJ.out.kept ac).mono K
    have Y:tX (ff defs) (okS S wr.heap.size Z) W.heap.size Z:=aR.out.mapD.step (af.out.block _ hM) (λb m=>af.out.block b (by have:=m.1;omega)) K
    have U:ki (ff defs) (eG 256 calls) l wr.heap.size W.heap.size S (eG 1000000 fuel) Z:=by
     refine⟨aN.out,(λh=>by have:=M _ h;omega),⟨by have:=aM.out;omega,(λh=>by have:=M _ h;omega),by omega⟩,Y,(λb m=>by have:=M b m;have:=G.size;omega),iF _ _,iF _ _,λn=> ?_⟩
     by_cases hn:ff defs n=.nil
     · rw[hn];exact⟨trivial,by simp[Pt.cnt]⟩
     · obtain⟨d,hd,aB⟩:=qr hn
       rw[<-aB]
       have h3:=aq.out
       have h4:=iX hd
       exact⟨(aG.out d hd).2,by omega⟩
    have C1:=AF (iM (ff defs) (eG 256 calls) l wr.heap.size W.heap.size J ay.out aI.out (eG 1000000 fuel) v v main 0 (eG 1000000 fuel) S [] Z a1 a2 a1 a2 am c1 c2 c1 c2 cm (AG _) (by rw[List.length_nil,Nat.zero_add];exact iF _ _) (Nat.zero_le _) aH.out (by have:=aq.out;omega) U (ay.out _ _ _ _ aT.out (eB M G)) ⟨ar.out,ar.out,A,A⟩ ((HM.out.kept ac).mono K))
    have aP:Hid (Off (λb=>b<W.heap.size/\¬S b) W Z):=(Off.of_below G).mono λb m=>m.1
    have aO:=AF K
    clear G ac K M A Y U
    refine C1.out.mono ?_
    rintro e W' ⟨S',xs,hj,ho,al,E⟩
    have av:Hid (Off (λb=>b<W.heap.size/\¬S b) W W'):=aP.out.trans (al.off.mono aO.out)
    have az:=AF hj
    have au:Hid (xs.map It.pc=(pY (ff defs) (eG 256 calls) main v (eG 1000000 fuel)).out):=ho
    have HE:Hid (match (pY (ff defs) (eG 256 calls) main v (eG 1000000 fuel)).err with
     | none=>e=.returned (.bool true)
     | some (n,p)=>e=.panicked (iL n p)):=by
     unfold Hid
     change(match (pY (ff defs) (eG 256 calls) main v (eG 1000000 fuel)).err with | none=>_ | some (n,p)=>_)at E
     split at E
     · exact E.1
     · exact E
    clear hj ho al E
    cases hr:(pY (ff defs) (eG 256 calls) main v (eG 1000000 fuel)).err with
    | none=>
      have HR:=AF hr
      have E:=HE.out
      rw[hr]at E
      obtain rfl:=E
      clear hr HE
      go_wp2_with fail
      go_end0
      exact⟨S',xs,az.out,av.out,au.out,.inl ⟨_,rfl,HR.out⟩⟩
    | some np=>
      obtain⟨n,p⟩:=np
      have HR:=AF hr
      have E:=HE.out
      rw[hr]at E
      obtain rfl:=E
      clear hr HE
      go_wp2_with fail
      exact⟨rfl,S',xs,az.out,av.out,au.out,.inr ⟨_,_,rfl,HR.out⟩⟩
theorem yC {A B:Nat}(h:A<=B){x:It}{W:World}(m:prP B x W):prP A x W:=⟨m.1,m.2.1,m.2.2.1,λb o=>Nat.le_trans h (m.2.2.2 b o)⟩
theorem nE (t:Tm)(hz:TmZ t)(U:twice (t.defs.map λd=>bl d.name)=false)(v:Va)(V:Va.sm v)(fuel calls:Int)(w:World)(m:Nat->Prop)(hO:∀b,m b->b<w.heap.size)
 (am ad a1 a2:Option Addr) (cm cd c1 c2 N M fb cb:Nat) (ht:w.heap[N]? =some (.cells #[.slice am t.main.len cm,.slice ad t.defs.length cd] 25 (0,0)))
 (hv:w.heap[M]? =some (.cells #[.int .u8 (v.h.kind:Nat),.bool v.h.b,.int .i64 v.h.n,.int .u64 (v.h.bits:Nat),.string v.h.text,.slice a1 v.h.keys.length c1,.slice a2 v.items.len c2] 31 (0,0)))
 (hf:w.heap[fb]? =some (.cells #[.int .i64 fuel] 3 (0,0))) (hc:w.heap[cb]? =some (.cells #[.int .i64 calls] 3 (0,0)))
 (hm:d8 m w (.slice am t.main.len cm) t.main) (hd:fU m w (.slice ad t.defs.length cd) t.defs) (R:fu m w v a1 c1 a2 c2) (r:Ev.Rs) (hr:r=pY (ff t.defs) (eG 256 calls) t.main v (eG 1000000 fuel)):
 zr Tryz.prog 51 #[.pointer (some ⟨N,0,none⟩),.pointer (some ⟨M,0,none⟩),.pointer (some ⟨fb,0,none⟩),.pointer (some ⟨cb,0,none⟩)] xA It.T (prP w.heap.size)
  (λG=>r.err=none/\G.map It.pc=r.out) (λch G=>∃n p,ch=iL n p/\r.err=some (n,p)/\G.map It.pc=r.out) m w:=by
 intro l J S W E hS Y HJ hY Z
 have A:eL m w W:=λb I=>E.block b (hO b I)
 have o:∀b,m b->(b<W.heap.size/\¬S b):=λb I=>⟨AI (hO b I) E.size,Y b I⟩
 have HY:mq l W.heap.size J:=λS O x W1 h1 hl K=>hY S O x W1 h1 hl ⟨K.new,yC E.size K.is⟩
 refine(callsIn_wide.2 (mE t hz U v V fuel calls l J HJ S W HY hS Z am ad a1 a2 cm cd c1 c2 N M fb cb ((E.block _ (dX ht)).trans ht) ((E.block _ (dX hv)).trans hv) ((E.block _ (dX hf)).trans hf) ((E.block _ (dX hc)).trans hc) ((hm.kept A).mono o) ((hd.kept A).mono o) ((R.kept A).mono o))).mono ?_
 rintro e W' ⟨S',G,h1,K,h3,h4⟩
 rw[<-hr]at h3 h4
 refine⟨S',G,h1,K,?_⟩
 rcases h4 with⟨v,rfl,h5⟩ | ⟨n,p,rfl,h5⟩
 · exact .inl ⟨v,rfl,h5,h3⟩
 · exact .inr ⟨_,rfl,n,p,rfl,h5,h3⟩
theorem nG (m o K J I G E A r:Value)(fuel calls:Int)(w:World):
 Calls Tryz.prog 31 #[.agg #[m,o],.agg #[K,J,I,G,E,A,r],.int .i64 fuel,.int .i64 calls] w λe w'=>
  e=.returned (.func (.func 51) #[] #[.pointer (some ⟨w.heap.size,0,none⟩),.pointer (some ⟨w.heap.size+1,0,none⟩),.pointer (some ⟨w.heap.size+2,0,none⟩),.pointer (some ⟨w.heap.size+3,0,none⟩)])/\
  Below w.heap.size w w'/\w'.heap[w.heap.size]? =some (.cells #[m,o] 25 (0,0))/\w'.heap[w.heap.size+1]? =some (.cells #[K,J,I,G,E,A,r] 31 (0,0))/\
  w'.heap[w.heap.size+2]? =some (.cells #[.int .i64 fuel] 3 (0,0))/\w'.heap[w.heap.size+3]? =some (.cells #[.int .i64 calls] 3 (0,0)):=by
 have U:∀(fn:Fn) (first cap:Array Value) (w:World),(Instr.makeFunc fn first cap).run Tryz.prog w=.ok (.func fn first cap) w:=λ_ _ _ _=>rfl
 go_enter Tryz.func31,Tryz.ntmps31
 go_wp2_with fail
 go_ret
 have R:=heap_alloc_new w (.cells #[m,o] 25)
 have O:=heap_alloc_new (w.alloc (.cells #[m,o] 25)) (.cells #[K,J,I,G,E,A,r] 31)
 have N:=heap_alloc_new ((w.alloc (.cells #[m,o] 25)).alloc (.cells #[K,J,I,G,E,A,r] 31)) (.cells #[.int .i64 fuel] 3)
 have M:=heap_alloc_new (((w.alloc (.cells #[m,o] 25)).alloc (.cells #[K,J,I,G,E,A,r] 31)).alloc (.cells #[.int .i64 fuel] 3)) (.cells #[.int .i64 calls] 3)
 simp only[World.size_alloc]at O N M
 refine⟨rfl,((((AH _ w).alloc (AG _) _).alloc (by simp) _).alloc (by simp <;> omega) _).alloc (by simp <;> omega) _,?_,?_,?_,M⟩
 · exact(Below.heap_alloc _ _ _ (by simp <;> omega)).trans ((Below.heap_alloc _ _ _ (by simp <;> omega)).trans ((Below.heap_alloc _ _ _ (by simp)).trans R))
 · exact(Below.heap_alloc _ _ _ (by simp <;> omega)).trans ((Below.heap_alloc _ _ _ (by simp)).trans O)
 · exact(Below.heap_alloc _ _ _ (by simp)).trans N
end Go.Proofs.YtepcpgdfbaklfaaGreatDoor
