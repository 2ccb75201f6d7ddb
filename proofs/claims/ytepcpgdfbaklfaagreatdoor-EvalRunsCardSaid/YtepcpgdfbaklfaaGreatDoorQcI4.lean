/- Lists of values that a call makes itself, by append. The condition: at most 2 to the 24th values. -/
import Derived.Test.YtepcpgdfbaklfaaGreatDoorQcF1
import Derived.Test.YtepcpgdfbaklfaaGreatDoorQcF0
import Derived.Test.YtepcpgdfbaklfaaGreatDoorQcH8
import Derived.Test.YtepcpgdfbaklfaaGreatDoorTc0Q
import Derived.Test.YtepcpgdfbaklfaaGreatDoorQcE0
import Derived.Test.YtepcpgdfbaklfaaGreatDoorQcMath
set_option maxRecDepth 100000
set_option maxHeartbeats 40000000
set_option linter.unusedSimpArgs false
set_option linter.unusedVariables false
namespace Go.Proofs.YtepcpgdfbaklfaaGreatDoor
open Go.RowKit Go.Shelf Ev
def gM (ok:Nat->Prop)(w:World):Vl->List Value->Prop
 | .nil,cs=>cs=[]
 | .cons h k r,cs=>∃o A m,cs=[.int .u8 (h.kind:Nat),.bool h.b,.int .i64 h.n,.int .u64 (h.bits:Nat),.string h.text,o,A]++m/\Strs ok w o h.keys/\gb ok w A k/\gM ok w r m
theorem gM.kept {ok:Nat->Prop}{w w':World}(o:eL ok w w'):∀(t:Vl) (cs:List Value),gM ok w t cs->gM ok w' t cs:=by
 intro t
 induction t with
 | nil=>intro cs h;exact h
 | cons h k r _ G=>
   rintro cs ⟨A,E,m,rfl,K,J,I⟩
   exact⟨A,E,m,rfl,K.kept o,J.kept o,G _ I⟩
theorem gM.mono {ok ok':Nat->Prop}{w:World}(o:∀b,ok b->ok' b):∀(t:Vl) (cs:List Value),gM ok w t cs->gM ok' w t cs:=by
 intro t
 induction t with
 | nil=>intro cs h;exact h
 | cons h k r _ G=>
   rintro cs ⟨A,E,m,rfl,K,J,I⟩
   exact⟨A,E,m,rfl,K.mono o,J.mono o,G _ I⟩
theorem gM.len {ok:Nat->Prop}{w:World}:∀(t:Vl) (cs:List Value),gM ok w t cs->cs.length=t.len*7:=by
 intro t
 induction t with
 | nil=>intro cs h;obtain rfl:cs=[]:=h;rfl
 | cons h k r _ m=>
   rintro cs ⟨E,G,A,rfl,J,I,o⟩
   have:=m _ o
   simp only[List.length_append,List.length_cons,List.length_nil,Vl.len];omega
theorem gM.row {ok:Nat->Prop}{w:World}:∀(t:Vl) (cs:List Value) (b o:Nat),gM ok w t cs->(∀j u,cs[j]? =some u->w.cell? ⟨b,o+j,none⟩=some u)->fF ok w t b o:=by
 intro t
 induction t with
 | nil=>intro cs b o _ _;exact trivial
 | cons h k r _ K=>
   rintro cs b o ⟨E,R,A,rfl,O,⟨a,c,rfl,J,I,G⟩,N⟩ m
   refine⟨⟨m 0 _ rfl,m 1 _ rfl,m 2 _ rfl,m 3 _ rfl,m 4 _ rfl,E,m 5 _ rfl,O⟩,⟨a,c,m 6 _ rfl,J,I,G⟩,K A b (o+7) N (λj u M=> ?_)⟩
   have:=m (7+j) u (by rw[List.getElem?_append_right (by simp)];simpa using M)
   rwa[show o+(7+j)=o+7+j by omega]at this
theorem gM.app {ok:Nat->Prop}{w:World}(y:Vl)(m:List Value)(I:gM ok w y m):∀(t:Vl) (cs:List Value),gM ok w t cs->gM ok w (Vl.app t y) (cs++m):=by
 intro t
 induction t with
 | nil=>intro cs h;obtain rfl:cs=[]:=h;exact I
 | cons h k r _ G=>
   rintro cs ⟨A,E,o,rfl,M,K,J⟩
   exact⟨A,E,o++m,by simp,M,K,G _ J⟩
def Nv (ok:Nat->Prop)(P Q:Nat)(u:Bool)(w:World)(v:Value)(b:Nat):Prop:=((u=false/\ok b/\b<P)\/Q<=b)/\b<w.heap.size/\v.ownBlock≠some b/\(u=true->UnF w b)
def Nr (ok:Nat->Prop)(P Q:Nat)(u:Bool)(w:World)(b:Nat):Prop:=((u=false/\ok b/\b<P)\/Q<=b)/\b<w.heap.size/\(u=true->UnF w b)
def oQ (ok:Nat->Prop)(P Q:Nat)(u:Bool)(w:World)(v:Value)(t:Vl):Prop:=∃cs,w.ownsRow Q 31 7 v t.len cs/\gM (Nv ok P Q u w v) w t cs
theorem oQ.nil (ok:Nat->Prop)(P Q:Nat)(u:Bool)(w:World):oQ ok P Q u w (.slice none 0 0) .nil:=⟨[],World.ownsRow_nil _ _ _ _,rfl⟩
theorem oQ.shp {ok:Nat->Prop}{P Q:Nat}{u:Bool}{w:World}{v:Value}{t:Vl}(h:oQ ok P Q u w v t):∃a c,v=.slice a t.len c:=by
 obtain⟨cs,m,-⟩:=h
 obtain⟨a,c,rfl,-⟩:=fd m
 exact⟨_,_,rfl⟩
theorem oQ.below {ok:Nat->Prop}{P Q:Nat}{u:Bool}{w w':World}{v:Value}{t:Vl}(h:oQ ok P Q u w v t)(m:Below w.heap.size w w'):oQ ok P Q u w' v t:=by
 obtain⟨cs,o,A⟩:=h
 refine⟨cs,fA o (λg r=>m.block g (fg o g r).2),?_⟩
 exact(A.kept (λb h=>m.block b h.2.1)).mono (λb h=>⟨h.1,AI h.2.1 m.size,h.2.2.1,λe=>(h.2.2.2 e).same (m.block b h.2.1)⟩) _ _
theorem oQ.vals {ok:Nat->Prop}{P Q:Nat}{u:Bool}{w:World}{v:Value}{t:Vl}(h:oQ ok P Q u w v t):gb (Nr ok P Q u w) w v t:=by
 obtain⟨cs,N,E⟩:=h
 have R:=gM.len _ _ E
 rcases N with⟨M,⟨rfl,K⟩ | ⟨g,cap,O,rfl,hB,A,r,m,I,G⟩⟩
 · rw[kX K];exact gb.nil _ _
 · refine⟨_,_,rfl,r,m,λJ=>⟨g,0,rfl,⟨.inr hB,dX A,λ_=>dY A⟩,?_⟩⟩
   refine gM.row _ _ _ _ (E.mono (λb h=>⟨h.1,h.2.1,h.2.2.2⟩) _ _) λj x o=> ?_
   rw[Nat.zero_add,dW A,←Array.getElem?_toList]
   rw[<-G,List.getElem?_take]at o
   split at o
   · exact o
   · cases o
theorem xO {J:Array Oper}{rest:List Oper}{o:Oper}{a:Act}{w:World}{Q:Exit->Act->World->Prop}(U:o.guard=none)(s x:Operand)
 (ho:o.op=.call {callee:=.builtin .append,args:=#[s,x],argTypes:=#[29,29]})
 (ok:Nat->Prop) (P B:Nat) (u:Bool) (v:Value) (t:Vl) (hs:a.eval s=v) (r:oQ ok P B u w v t) (h:Vh) (k:Vl) (a1 a2:Option Addr) (c1 c2:Nat) (q c:Nat) (hx:a.eval x=.slice (some ⟨q,0,none⟩) 1 c) (T:TypeId) (fr:Nat×Nat)
 (hq:w.heap[q]? =some (.cells #[.int .u8 (h.kind:Nat),.bool h.b,.int .i64 h.n,.int .u64 (h.bits:Nat),.string h.text,.slice a1 h.keys.length c1,.slice a2 k.len c2] T fr)) (Y:fu (Nv ok P B u w v) w ⟨h,k⟩ a1 c1 a2 c2) (Z:t.len<=16777216) (hB:B<=w.heap.size)
 (H:∀W w',oQ ok P B u w' W (Vl.app t (.cons h k .nil))->Below B w w'->wpList Tryz.prog J Q rest (a.put o.dst W) w'):wpList Tryz.prog J Q (o::rest) a w:=by
 obtain⟨i0,hi,R,O,N⟩:=info_parts sX
 obtain⟨cs,r,K⟩:=r
 refine wpList_append_lies w U s x 29 ho B 31 i0 _ 7 88 Tryz.underlying29 hi R O N (by rfl) (by decide) v t.len cs hs r ⟨q,0,none⟩ 1 c [.int .u8 (h.kind:Nat),.bool h.b,.int .i64 h.n,.int .u64 (h.bits:Nat),.string h.text,.slice a1 h.keys.length c1,.slice a2 k.len c2] hx (by rfl) (ir hq) ?_ (by decide) (by unfold maxLen;omega) (by omega) hB w.heap.size rfl ?_
 · intro y M
   simp only[List.mem_cons,List.not_mem_nil,or_false]at M
   rcases M with rfl | rfl | rfl | rfl | rfl | rfl | rfl <;> rfl
 · intro g cap w' G m V aa
   have A:eL (Nv ok P B u w v) w w':=λb E=>m.block b E.2.1 (λe=>E.2.2.1 e.symm)
   have I:∀b,Nv ok P B u w v b->Nv ok P B u w' (.slice (some ⟨g,0,none⟩) (t.len+1) cap) b:=λb E=>⟨E.1,AI E.2.1 m.size,by
    show some g≠some b
    rintro⟨rfl⟩
    rcases V with h | h
    · exact E.2.2.1 h
    · have:=E.2.1;omega,λe=>(E.2.2.2 e).same (A b E)⟩
   have M:gM (Nv ok P B u w' (.slice (some ⟨g,0,none⟩) (t.len+1) cap)) w' (.cons h k .nil) [.int .u8 (h.kind:Nat),.bool h.b,.int .i64 h.n,.int .u64 (h.bits:Nat),.string h.text,.slice a1 h.keys.length c1,.slice a2 k.len c2]:=
    ⟨.slice a1 h.keys.length c1,.slice a2 k.len c2,[],rfl,(Y.1.kept A).mono I,(Y.2.kept A).mono I,rfl⟩
   refine H _ w' ⟨cs++[.int .u8 (h.kind:Nat),.bool h.b,.int .i64 h.n,.int .u64 (h.bits:Nat),.string h.text,.slice a1 h.keys.length c1,.slice a2 k.len c2],?_,gM.app _ _ M _ _ ((K.kept A).mono I _ _)⟩ ((AH B w).grown m hB (λk hk=>(World.ownsRow.lt r k hk).1))
   rw[Vl.len_app]
   exact G
theorem Nr.toNv {ok:Nat->Prop}{P Q:Nat}{u:Bool}{wr w2 o:World}{v:Value}{t:Vl}(E:oQ ok P Q u wr v t)(m:∀b,ok b->b<P)(I:P<=Q)(G:Q<=wr.heap.size)(r:Below w2.heap.size w2 o):∀b,Nr ok wr.heap.size wr.heap.size u w2 b->Nv ok P Q u o v b:=by
 intro b h
 obtain⟨cs,A,-⟩:=E
 refine⟨?_,AI h.2.1 r.size,λe=> ?_,λe=>(h.2.2 e).same (r.block b h.2.1)⟩
 · rcases h.1 with⟨q1,q2,-⟩ | q
   · exact .inl ⟨q1,q2,m b q2⟩
   · exact .inr (by omega)
 · have J:=fg A b e
   rcases h.1 with⟨-,q2,-⟩ | q
   · have:=m b q2;omega
   · omega
def Ae (x:Va)(ok:Nat->Prop)(u:Bool)(w:World)(e:Ending)(w':World):Prop:=∃a1 c1 a2 c2,e=.returned (.agg #[.int .u8 (x.h.kind:Nat),.bool x.h.b,.int .i64 x.h.n,.int .u64 (x.h.bits:Nat),.string x.h.text,.slice a1 x.h.keys.length c1,.slice a2 x.items.len c2])/\fu (Nr ok w.heap.size w.heap.size u w') w' x a1 c1 a2 c2/\Below w.heap.size w w'
theorem rE {E:Array Oper}{rest:List Oper}{o:Oper}{a:Act}{w:World}{Q:Exit->Act->World->Prop}(I:o.guard=none)(s x:Operand)
 (V:o.op=.call {callee:=.builtin .append,args:=#[s,x],argTypes:=#[28,28]})
 (B:Nat) (U:a.eval s=.slice none 0 0) (ok:Nat->Prop) (l:List ByteArray) (v:Value) (hx:a.eval x=v) (hv:Strs ok w v l) (W:l.length<=16777216) (hB:B<=w.heap.size)
 (H:∀J w',Strs (Nu B w') w' J l->Below B w w'->wpList Tryz.prog E Q rest (a.put o.dst J) w'):wpList Tryz.prog E Q (o::rest) a w:=by
 obtain⟨i0,Y,N,M,K⟩:=info_parts mM
 obtain⟨an,c,rfl,h1,h2,Z⟩:=hv
 have m:w.ownsRow B 9 1 (.slice none 0 0) 0 []:=World.ownsRow_nil _ _ _ _
 cases an with
 | none=>
   cases l with
   | nil=>exact qA I s x 28 V B 9 i0 1 Tryz.underlying28 Y c _ 0 [] U m hx (H _ _ (Strs.nil _ _) (AH _ _))
   | cons y l=>obtain⟨b,o,R,-⟩:=Z (by simp);cases R
 | some ad=>
   refine wpList_append_own w I s x 28 V B 9 i0 (.string ⟨#[]⟩) 1 16 Tryz.underlying28 Y N M K (by rfl) (by decide) _ 0 [] U m ad l.length c (l.map Value.string) hx (by simp) ?_ ?_ (by unfold maxLen;omega) (by omega) hB ?_
   · intro j u hj
     obtain⟨x,G,rfl⟩:∃x,l[j]? =some x/\Value.string x=u:=by simpa using hj
     obtain⟨b,o,R,-,O⟩:=Z (by rintro rfl;simp at G)
     obtain rfl:ad=⟨b,o,none⟩:=Option.some.inj R
     rw[lD]
     exact O j x G
   · intro u hu
     obtain⟨x,-,rfl⟩:=List.mem_map.1 hu
     rfl
   · intro J w' r A _
     refine H J w' (lW ?_) ((AH B w).grown A hB (λk hk=>(World.ownsRow.lt m k hk).1))
     rwa[Nat.zero_add,List.nil_append]at r
attribute [local go_sem ↓] Go.wp_at_zero Go.wp_at_succ
def rG (ok:Nat->Prop)(w:World)(v:Value)(l:List Int):Prop:=∃(a:Option Addr) (c:Nat),v=.slice a l.length c/\(l≠[]->∃b o,a=some ⟨b,o,none⟩/\ok b/\b<w.heap.size/\∀(i:Nat) n,l[i]? =some n->w.cell? ⟨b,o+i,none⟩=some (.int .i64 n))
theorem rG.kept {ok:Nat->Prop}{w w':World}{v:Value}{l:List Int}(h:rG ok w v l)(I:eL ok w w')(E:w.heap.size<=w'.heap.size):rG ok w' v l:=by
 obtain⟨a,c,A,N⟩:=h
 refine⟨a,c,A,λG=> ?_⟩
 obtain⟨b,o,M,r,m,K⟩:=N G
 exact⟨b,o,M,r,AI m E,λi n J=>(I.cell r _).trans (K i n J)⟩
theorem rG.mono {ok ok':Nat->Prop}{w:World}{v:Value}{l:List Int}(h:rG ok w v l)(E:∀b,ok b->ok' b):rG ok' w v l:=by
 obtain⟨a,c,r,K⟩:=h
 refine⟨a,c,r,λA=> ?_⟩
 obtain⟨b,o,J,I,m,G⟩:=K A
 exact⟨b,o,J,E b I,m,G⟩
theorem rG.lt {ok:Nat->Prop}{w:World}{v:Value}{l:List Int}(h:rG ok w v l):rG (λb=>ok b/\b<w.heap.size) w v l:=by
 obtain⟨a,c,r,J⟩:=h
 refine⟨a,c,r,λA=> ?_⟩
 obtain⟨b,o,I,G,m,E⟩:=J A
 exact⟨b,o,I,⟨G,m⟩,m,E⟩
theorem lH (ok ok':Nat->Prop)(l:List Int)(hl:l.length<=140737488351232)(v M:Value)(w:World)(h:rG ok w v l)(h':rG ok' w M l):
 Calls Tryz.prog 19 #[v,M] w λe w'=>e=.returned (.bool true)/\Below w.heap.size w w':=by
 obtain⟨a,c,rfl,U⟩:=h
 obtain⟨a',c',rfl,G⟩:=h'
 have H3:=AF U
 have K:=AF G
 clear U G
 go_enter Tryz.func19,Tryz.ntmps19
 go_wp2_with fail
 go_loopw [5] (λi wr=>∃k:Nat,i=.int .i64 k/\k<=l.length/\Hid (Below w.heap.size w wr)) (λi _=>l.length - (intOf i).toNat)
 case atStart=>exact⟨0,rfl,Nat.zero_le _,AH _ _⟩
 case round=>
  obtain⟨k,rfl,hk,I⟩:=hrel
  by_cases m:k<l.length
  · have O:(k:Int)<(l.length:Int):=by omega
    have A:l≠[]:=by intro e;rw[e]at m;simp at m
    obtain⟨s,r⟩:∃s,l[k]? =some s:=⟨_,List.getElem?_eq_getElem m⟩
    obtain⟨b,o,rfl,-,Z,R⟩:=H3.out A
    obtain⟨V,N,rfl,-,J,E⟩:=K.out A
    have c1:wr.cell? ⟨b,o+k,none⟩=some (.int .i64 s):=(I.out.cell (p:=⟨b,o+k,none⟩) Z).trans (R k s r)
    have c2:wr.cell? ⟨V,N+k,none⟩=some (.int .i64 s):=(I.out.cell (p:=⟨V,N+k,none⟩) J).trans (E k s r)
    have W:(0:Int)<=(k:Int):=by omega
    clear R E r m A
    go_wp2_with fail
    go_quiet (fail)
    go_wp2_with fail
    go_roundw
    case rel=>exact⟨k+1,by go_num,by omega,ei I.out _⟩
    case measure=>simp[intOf];omega
  · have Y:¬(k:Int)<(l.length:Int):=by omega
    go_wp2_with fail
    go_ret
    exact⟨rfl,I.out⟩
theorem xo:(Tryz.prog.info? 3).map (λi=>(i.zero,i.size,i.bytes))=some (some (.int .i64 0),1,8):=by kernel_rfl
def oR (B:Nat)(w:World)(v:Value)(l:List Int):Prop:=w.ownsRow B 3 1 v l.length (l.map (Value.int .i64))
theorem oR.nil (B:Nat)(w:World):oR B w (.slice none 0 0) []:=World.ownsRow_nil _ _ _ _
theorem oR.below {B:Nat}{w w':World}{v:Value}{l:List Int}(h:oR B w v l)(o:Below w.heap.size w w'):oR B w' v l:=fA h (λg m=>o.block g (fg h g m).2)
theorem oR.ints {B:Nat}{w:World}{v:Value}{l:List Int}(h:oR B w v l):rG (B<=·) w v l:=by
 obtain⟨a,c,rfl,-,-,G⟩:=fd h
 refine⟨a,c,rfl,λr=> ?_⟩
 obtain⟨g,rfl,o,m,E⟩:=G (by simpa using r)
 exact⟨g,0,rfl,o,m,λi n A=>by rw[Nat.zero_add];exact E i _ (by rw[List.getElem?_map,A];rfl)⟩
theorem mX {E:Array Oper}{rest:List Oper}{o:Oper}{a:Act}{w:World}{Q:Exit->Act->World->Prop}(K:o.guard=none)(s x:Operand)
 (V:o.op=.call {callee:=.builtin .append,args:=#[s,x],argTypes:=#[46,46]})
 (B:Nat) (v:Value) (l:List Int) (R:a.eval s=v) (m:oR B w v l) (n:Int) (q c:Nat) (hx:a.eval x=.slice (some ⟨q,0,none⟩) 1 c) (T:TypeId) (fr:Nat×Nat)
 (U:w.heap[q]? =some (.cells #[.int .i64 n] T fr)) (N:l.length<=16777216) (hB:B<=w.heap.size)
 (H:∀M w',oR B w' M (l++[n])->Below B w w'->wpList Tryz.prog E Q rest (a.put o.dst M) w'):wpList Tryz.prog E Q (o::rest) a w:=by
 obtain⟨i0,Z,J,I,G⟩:=info_parts xo
 refine wpList_append_lies w K s x 46 V B 3 i0 _ 1 8 Tryz.underlying46 Z J I G (by rfl) (by decide) v l.length _ R m ⟨q,0,none⟩ 1 c [.int .i64 n] hx (by rfl) (ir U) ?_ (by decide) (by unfold maxLen;omega) (by omega) hB w.heap.size rfl ?_
 · intro u O
   obtain rfl:=List.mem_singleton.1 O
   rfl
 · intro g cap w' r A aa W
   refine H _ w' ?_ ((AH B w).grown A hB (λk Y=>(World.ownsRow.lt m k Y).1))
   unfold oR
   rw[List.length_append,List.map_append]
   exact r
def Ak (l:List Pc)(w:World)(e:Ending)(w':World):Prop:=∃v,e=.returned v/\rG (w.heap.size<=·) w' v (l.map lE)/\Below w.heap.size w w'
theorem gB {B r n:Nat}{e:TypeId}{w:World}{v:Value}{o:List Value}(h:w.ownsRow B e r v n o):∃a m c,v=.slice a m c:=by
 obtain⟨a,c,rfl,-⟩:=fd h
 exact⟨a,n,c,rfl⟩
theorem o3 (l:List Pc)(hp:∀p∈l,Pc.ok p)(hl:l.length<=1000000)(ok:Nat->Prop)(v:Value)(w:World)(h:Pcs ok w v l):
 Calls Tryz.prog 18 #[v] w (Ak l w):=by
 obtain⟨a,c,rfl,-,-,h3⟩:=Pcs.rest h
 have HX:=AF h3
 have HP:=AF hp
 clear h3 h hp
 go_enter Tryz.func18,Tryz.ntmps18
 go_wp2_with fail
 go_loopw [3,9] (λv3 v9 wr=>∃(k:Nat) (ao:Option Addr) (V Y:Nat) (d r:List Pc),v3=.slice ao V Y/\v9=.int .i64 (k:Nat)/\k+r.length=l.length/\d.length=k/\Hid (d++r=l)/\Hid (oR w.heap.size wr v3 (d.map lE))/\Hid (Below w.heap.size w wr)/\Hid (jF ok a w r k)) (λ_ i _=>l.length - (intOf i).toNat)
 case atStart=>exact⟨0,none,0,0,[],l,rfl,rfl,by omega,rfl,rfl,oR.nil _ _,AH _ _,HX⟩
 case round=>
  obtain⟨k,ao,V,Y,d,r,rfl,rfl,hk,am,HD,HO,HB,af⟩:=hrel
  cases r with
  | nil=>
    simp only[List.length_nil]at hk
    have al:¬(k:Int)<(l.length:Int):=by omega
    go_wp2_with fail
    go_ret
    have he:=HD.out
    rw[List.append_nil]at he
    exact⟨_,rfl,by rw[<-he];exact HO.out.ints,HB.out⟩
  | cons p r=>
    simp only[List.length_cons]at hk
    have ah:(k:Int)<(l.length:Int):=by omega
    have ak:(0:Int)<=(k:Int):=by omega
    have ae:=HP.out p (by rw[<-HD.out];simp)
    obtain⟨-,aj,ai⟩:=ae
    obtain⟨b,o,rfl,hb,E⟩:=af.out (by simp)
    have ab:Hid (jF ok (some ⟨b,o,none⟩) w r (k+1)):=λ_=>⟨b,o,rfl,hb,by have:=E.2.2;rwa[show o+k*10+10=o+(k+1)*10 by omega]at this⟩
    obtain⟨⟨g0,g1,g2⟩,⟨⟨c0,c1,c2,c3,c4,v5,c5,an,Z,rfl,-⟩,⟨ag,cg,c6,-⟩,-⟩,-⟩:=hH.kept (λb hb=>HB.out.block b hb.2) _ _ _ hb E
    have J:=AF hk
    have ac:Hid ((d++[p])++r=l):=by unfold Hid;rw[List.append_assoc];exact HD.out
    have aa:=HB.out.size
    have K:(d.map lE).length<=16777216:=by rw[List.length_map];omega
    clear E hk
    cases W:p.hole with
    | false=>
      rw[W]at g1
      have HE:Hid (lE p=p.pos):=by unfold Hid lE;rw[W];rfl
      have U:Hid (Below wr.heap.size wr (wr.alloc (.cells #[.int .i64 p.pos,.bool false,.string p.text,.int .u8 (p.val.h.kind:Nat),.bool p.val.h.b,.int .i64 p.val.h.n,.int .u64 (p.val.h.bits:Nat),.string p.val.h.text,.slice an p.val.h.keys.length Z,.slice ag p.val.items.len cg] 44))):=(AH _ wr).alloc (AG _) _
      clear W
      go_upto_region 5 with(fail)
      clear g0 g1 g2 c0 c1 c2 c3 c4 c5 c6
      have x0:(wr.alloc (.cells #[.int .i64 p.pos,.bool false,.string p.text,.int .u8 (p.val.h.kind:Nat),.bool p.val.h.b,.int .i64 p.val.h.n,.int .u64 (p.val.h.bits:Nat),.string p.val.h.text,.slice an p.val.h.keys.length Z,.slice ag p.val.items.len cg] 44)).cell? ⟨wr.heap.size,0,none⟩=some (.int .i64 p.pos):=by rw[dW (heap_alloc_new wr _)];rfl
      have x1:(wr.alloc (.cells #[.int .i64 p.pos,.bool false,.string p.text,.int .u8 (p.val.h.kind:Nat),.bool p.val.h.b,.int .i64 p.val.h.n,.int .u64 (p.val.h.bits:Nat),.string p.val.h.text,.slice an p.val.h.keys.length Z,.slice ag p.val.items.len cg] 44)).cell? ⟨wr.heap.size,1,none⟩=some (.bool false):=by rw[dW (heap_alloc_new wr _)];rfl
      generalize World.alloc wr _=m at*
      have ad:=U.out.size
      have N:Hid (oR w.heap.size m (.slice ao V Y) (d.map lE)):=HO.out.below U.out
      have R:Hid (Below w.heap.size w m):=HB.out.trans (U.out.mono aa)
      have I:Hid (Below m.heap.size m (m.alloc (.cells #[.int .i64 p.pos] 3))):=(AH _ m).alloc (AG _) _
      go_wp2_with (at_builtin;refine mX rfl _ _ rfl w.heap.size (.slice ao V Y) (d.map lE) rfl (N.out.below I.out) p.pos m.heap.size 1 rfl 3 (0,0) (heap_alloc_new m _) K (by simp;omega) ?_;intro v6 w4 A G;obtain⟨a6,n6,c6,rfl⟩:=gB A;have M:=AF A;have O:Hid (Below w.heap.size w w4):=(R.out.trans (I.out.mono (by omega))).trans G;clear A G)
      exact⟨⟨k+1,_,_,_,d++[p],r,rfl,by go_num,by have:=J.out;omega,by simp;omega,ac,by unfold Hid;rw[List.map_append,List.map_cons,List.map_nil,HE.out];exact M.out,O,ab⟩,by simp[intOf];have:=J.out;omega⟩
    | true=>
      rw[W]at g1
      have HE:Hid (lE p= -1 - p.pos):=by unfold Hid lE;rw[W];rfl
      have U:Hid (Below wr.heap.size wr (wr.alloc (.cells #[.int .i64 p.pos,.bool true,.string p.text,.int .u8 (p.val.h.kind:Nat),.bool p.val.h.b,.int .i64 p.val.h.n,.int .u64 (p.val.h.bits:Nat),.string p.val.h.text,.slice an p.val.h.keys.length Z,.slice ag p.val.items.len cg] 44))):=(AH _ wr).alloc (AG _) _
      clear W
      go_upto_region 5 with(fail)
      clear g0 g1 g2 c0 c1 c2 c3 c4 c5 c6
      have x0:(wr.alloc (.cells #[.int .i64 p.pos,.bool true,.string p.text,.int .u8 (p.val.h.kind:Nat),.bool p.val.h.b,.int .i64 p.val.h.n,.int .u64 (p.val.h.bits:Nat),.string p.val.h.text,.slice an p.val.h.keys.length Z,.slice ag p.val.items.len cg] 44)).cell? ⟨wr.heap.size,0,none⟩=some (.int .i64 p.pos):=by rw[dW (heap_alloc_new wr _)];rfl
      have x1:(wr.alloc (.cells #[.int .i64 p.pos,.bool true,.string p.text,.int .u8 (p.val.h.kind:Nat),.bool p.val.h.b,.int .i64 p.val.h.n,.int .u64 (p.val.h.bits:Nat),.string p.val.h.text,.slice an p.val.h.keys.length Z,.slice ag p.val.items.len cg] 44)).cell? ⟨wr.heap.size,1,none⟩=some (.bool true):=by rw[dW (heap_alloc_new wr _)];rfl
      generalize World.alloc wr _=m at*
      have ad:=U.out.size
      have N:Hid (oR w.heap.size m (.slice ao V Y) (d.map lE)):=HO.out.below U.out
      have R:Hid (Below w.heap.size w m):=HB.out.trans (U.out.mono aa)
      have I:Hid (Below m.heap.size m (m.alloc (.cells #[.int .i64 (-1 - p.pos)] 3))):=(AH _ m).alloc (AG _) _
      go_wp2_with (at_builtin;refine mX rfl _ _ rfl w.heap.size (.slice ao V Y) (d.map lE) rfl (N.out.below I.out) (-1 - p.pos) m.heap.size 1 rfl 3 (0,0) (heap_alloc_new m _) K (by simp;omega) ?_;intro v6 w4 A G;obtain⟨a6,n6,c6,rfl⟩:=gB A;have M:=AF A;have O:Hid (Below w.heap.size w w4):=(R.out.trans (I.out.mono (by omega))).trans G;clear A G)
      exact⟨⟨k+1,_,_,_,d++[p],r,rfl,by go_num,by have:=J.out;omega,by simp;omega,ac,by unfold Hid;rw[List.map_append,List.map_cons,List.map_nil,HE.out];exact M.out,O,ab⟩,by simp[intOf];have:=J.out;omega⟩
def tq (n:Nat):Prop:=∀(x:Va),eX x.items<n->∀(ok:Nat->Prop) (v:Value) (w:World),Va.sm x->g9 ok w v x->Calls Tryz.prog 11 #[v] w (Ae x ok true w)
theorem xF (n:Nat)(ih:tq n):tq (n+1):=by
 intro x hn ok v w aL hx
 obtain⟨h,m⟩:=x
 obtain⟨⟨f1,f2,f3,f4,f5,f6,f7⟩,al,aO⟩:=aL
 dsimp only at hn f1 f2 f3 f4 f5 f6 f7 al aO
 have bh:=eS m
 obtain⟨vk,vi,rfl,hk,hi⟩:=hx
 dsimp only at hk hi
 obtain⟨a,c,rfl,h1,h2,h3⟩:=gb.rest hi
 have HK:=AF hk.lt
 obtain⟨ak,ck,rfl,-⟩:=hk
 have HX:=AF h3
 have aU:=AF al
 have IH:=AF ih
 clear hi h3 al ih f7 f1 f2 f3 f4 h1 h2
 have af:Hid (Below w.heap.size w ((w.alloc (.cells (d9 h (.slice ak h.keys.length ck) (.slice a m.len c)) 31)).alloc (.cells #[.int .u8 0,.bool false,.int .i64 0,.int .u64 0,.string ⟨#[]⟩,.slice none 0 0,.slice none 0 0] 31))):=((AH _ w).alloc (AG _) _).alloc (by simp) _
 have ao:Hid (((w.alloc (.cells (d9 h (.slice ak h.keys.length ck) (.slice a m.len c)) 31)).alloc (.cells #[.int .u8 0,.bool false,.int .i64 0,.int .u64 0,.string ⟨#[]⟩,.slice none 0 0,.slice none 0 0] 31)).heap.size=w.heap.size+2):=by unfold Hid;simp
 have Y:Hid (((w.alloc (.cells (d9 h (.slice ak h.keys.length ck) (.slice a m.len c)) 31)).alloc (.cells #[.int .u8 0,.bool false,.int .i64 0,.int .u64 0,.string ⟨#[]⟩,.slice none 0 0,.slice none 0 0] 31)).heap[w.heap.size]? =some (.cells (d9 h (.slice ak h.keys.length ck) (.slice a m.len c)) 31 (0,0))):=(Below.heap_alloc _ _ _ (by simp)).trans (heap_alloc_new w _)
 have ap:Hid (((w.alloc (.cells (d9 h (.slice ak h.keys.length ck) (.slice a m.len c)) 31)).alloc (.cells #[.int .u8 0,.bool false,.int .i64 0,.int .u64 0,.string ⟨#[]⟩,.slice none 0 0,.slice none 0 0] 31)).heap[w.heap.size+1]? =some (.cells #[.int .u8 0,.bool false,.int .i64 0,.int .u64 0,.string ⟨#[]⟩,.slice none 0 0,.slice none 0 0] 31 (0,0))):=by
  have:=heap_alloc_new (w.alloc (.cells (d9 h (.slice ak h.keys.length ck) (.slice a m.len c)) 31)) (.cells #[.int .u8 0,.bool false,.int .i64 0,.int .u64 0,.string ⟨#[]⟩,.slice none 0 0,.slice none 0 0] 31)
  rwa[show(w.alloc (.cells (d9 h (.slice ak h.keys.length ck) (.slice a m.len c)) 31)).heap.size=w.heap.size+1 by simp]at this
 unfold d9 at af ao Y ap
 go_enter Tryz.func11,Tryz.ntmps11
 go_upto_region 1 with(fail)
 generalize V:World.alloc (World.alloc w _) _=W0 at*
 clear V
 have aJ:=ao.out
 have x5:W0.cell? ⟨w.heap.size,5,none⟩=some (.slice ak h.keys.length ck):=by rw[dW Y.out];rfl
 have aD:Hid (Strs (λb=>ok b/\b<w.heap.size) W0 (.slice ak h.keys.length ck) h.keys):=HK.out.kept (λb A=>af.out.block b A.2)
 go_upto_region 2 with(at_builtin;refine rE rfl _ _ rfl W0.heap.size rfl _ h.keys _ rfl aD.out f6 (AG _) ?_;intro v1 w1 aj ad;obtain⟨a5,c5,rfl⟩:=aj.cases;have aA:=AF aj;have K:=AF ad;clear aj ad;have y5:w1.cell? ⟨w.heap.size,5,none⟩=some (.slice ak h.keys.length ck):=(K.out.cell (p:=⟨w.heap.size,5,none⟩) (show w.heap.size<W0.heap.size by omega)).trans x5;have z5:=dY ((K.out.block _ (by omega)).trans Y.out) 5)
 have aI:w.heap.size+2<=w1.heap.size:=by have:=K.out.size;omega
 have aY:Hid ((w1.setCell ⟨w.heap.size,5,none⟩ (.slice a5 h.keys.length c5)).heap[w.heap.size]? =some (.cells #[.int .u8 (h.kind:Nat),.bool h.b,.int .i64 h.n,.int .u64 (h.bits:Nat),.string h.text,.slice a5 h.keys.length c5,.slice a m.len c] 31 (0,0))):=d7 (j:=5) ((K.out.block _ (by omega)).trans Y.out) _
 have aX:Hid ((w1.setCell ⟨w.heap.size,5,none⟩ (.slice a5 h.keys.length c5)).heap[w.heap.size+1]? =some (.cells #[.int .u8 0,.bool false,.int .i64 0,.int .u64 0,.string ⟨#[]⟩,.slice none 0 0,.slice none 0 0] 31 (0,0))):=(Below.heap_setCell _ _ _ _ (by show w.heap.size+1≠w.heap.size;omega)).trans ((K.out.block _ (by omega)).trans ap.out)
 have aE:Hid (Below w.heap.size w (w1.setCell ⟨w.heap.size,5,none⟩ (.slice a5 h.keys.length c5))):=(af.out.trans (K.out.mono (by omega))).setCell (p:=⟨w.heap.size,5,none⟩) (AG _) _
 have bf:w.heap.size+2<=(w1.setCell ⟨w.heap.size,5,none⟩ (.slice a5 h.keys.length c5)).heap.size:=by simp[World.setCell];omega
 have ba:Hid (Strs (Nr (λb=>ok b/\b<w.heap.size) w.heap.size (w.heap.size+2) true (w1.setCell ⟨w.heap.size,5,none⟩ (.slice a5 h.keys.length c5))) (w1.setCell ⟨w.heap.size,5,none⟩ (.slice a5 h.keys.length c5)) (.slice a5 h.keys.length c5) h.keys):=
  (aA.out.kept (λb A=>Below.heap_setCell _ _ _ _ (λe=>by have e2:b=w.heap.size:=e;have:=A.1;omega))).mono (λb A=>⟨.inr (by have:=A.1;omega),by simp[World.setCell];exact A.2.1,λ_ j=>by rw[World.frozen?_setCell];exact A.2.2 j⟩)
 clear x5 y5 z5 Y ap af ao aJ aD aA K aI HK
 generalize World.setCell w1 _ _=O at*
 have ad:=aE.out.size
 go_wp2_with fail
 go_loopw [3,4] (λv3 v4 wr=>∃(k:Nat) (N:Option Addr) (M:Nat) (d r:Vl),v3=.slice N k M/\v4=.int .i64 (k:Nat)/\k+r.len=m.len/\d.len=k/\Hid (oQ (λb=>ok b/\b<w.heap.size) w.heap.size O.heap.size true wr v3 d)/\Hid (Vl.app d r=m)/\Hid (jE ok a w r k)/\eX r<=eX m/\Hid (smX r)/\Hid (Below O.heap.size O wr)) (λ_ i _=>m.len - (intOf i).toNat)
 case atStart=>exact⟨0,none,0,.nil,m,rfl,rfl,by omega,rfl,oQ.nil _ _ _ _ _,rfl,HX,AG _,aU,AH _ _⟩
 case round=>
  obtain⟨k,N,M,d,r,rfl,rfl,hk,bm,HO,HD,aV,aN,aT,HQ⟩:=hrel
  have aH:=HQ.out.size
  have HB:Hid (Below w.heap.size w wr):=aE.out.trans (HQ.out.mono ad)
  have HP:=AF ((HQ.out.block _ (by omega)).trans aY.out)
  have HR:=AF ((HQ.out.block _ (by omega)).trans aX.out)
  have p6:wr.cell? ⟨w.heap.size,6,none⟩=some (.slice a m.len c):=by rw[dW HP.out];rfl
  cases r with
  | nil=>
    simp only[Vl.len]at hk
    have bk:¬(k:Int)<(m.len:Int):=by omega
    have HE:Hid (d=m):=by have:=HD.out;rwa[Vl.app_nil]at this
    have pz:=dY HP.out
    have J:Hid ((wr.setCell ⟨w.heap.size,6,none⟩ (.slice N k M)).heap[w.heap.size]? =some (.cells #[.int .u8 (h.kind:Nat),.bool h.b,.int .i64 h.n,.int .u64 (h.bits:Nat),.string h.text,.slice a5 h.keys.length c5,.slice N k M] 31 (0,0))):=d7 (j:=6) HP.out _
    have aC:Hid (∀b,b≠w.heap.size->(wr.setCell ⟨w.heap.size,6,none⟩ (.slice N k M)).heap[b]? =wr.heap[b]?):=λb A=>Below.heap_setCell _ _ _ _ A
    have aQ:Hid ((wr.setCell ⟨w.heap.size,6,none⟩ (.slice N k M)).heap.size=wr.heap.size):=by unfold Hid;simp[World.setCell]
    have aa:Hid (Below w.heap.size w (wr.setCell ⟨w.heap.size,6,none⟩ (.slice N k M))):=HB.out.setCell (p:=⟨w.heap.size,6,none⟩) (AG _) _
    go_upto_region 8 with(fail)
    clear p6 pz
    generalize V:World.setCell wr _ _=I at*
    clear V
    have G:=AF ((aC.out (w.heap.size+1) (by omega)).trans HR.out)
    have p0:I.cell? ⟨w.heap.size,0,none⟩=some (.int .u8 (h.kind:Nat)):=by rw[dW J.out];rfl
    have p1:I.cell? ⟨w.heap.size,1,none⟩=some (.bool h.b):=by rw[dW J.out];rfl
    have p2:I.cell? ⟨w.heap.size,2,none⟩=some (.int .i64 h.n):=by rw[dW J.out];rfl
    have p3:I.cell? ⟨w.heap.size,3,none⟩=some (.int .u64 (h.bits:Nat)):=by rw[dW J.out];rfl
    have p4:I.cell? ⟨w.heap.size,4,none⟩=some (.string h.text):=by rw[dW J.out];rfl
    have p5:I.cell? ⟨w.heap.size,5,none⟩=some (.slice a5 h.keys.length c5):=by rw[dW J.out];rfl
    have p6:I.cell? ⟨w.heap.size,6,none⟩=some (.slice N k M):=by rw[dW J.out];rfl
    have r0:I.cell? ⟨w.heap.size+1,0,none⟩=some (.int .u8 0):=by rw[dW G.out];rfl
    have r1:I.cell? ⟨w.heap.size+1,1,none⟩=some (.bool false):=by rw[dW G.out];rfl
    have r2:I.cell? ⟨w.heap.size+1,2,none⟩=some (.int .i64 0):=by rw[dW G.out];rfl
    have r3:I.cell? ⟨w.heap.size+1,3,none⟩=some (.int .u64 0):=by rw[dW G.out];rfl
    have r4:I.cell? ⟨w.heap.size+1,4,none⟩=some (.string ⟨#[]⟩):=by rw[dW G.out];rfl
    have r5:I.cell? ⟨w.heap.size+1,5,none⟩=some (.slice none 0 0):=by rw[dW G.out];rfl
    have r6:I.cell? ⟨w.heap.size+1,6,none⟩=some (.slice none 0 0):=by rw[dW G.out];rfl
    have rz:=dY G.out
    have Z:=AF (o7 (w:=I) (g:=w.heap.size+1) (p:=0) (.int .u8 (h.kind:Nat)) (.bool h.b) (.int .i64 h.n) (.int .u64 (h.bits:Nat)) (.string h.text) (.slice a5 h.keys.length c5) (.slice N k M) r0 r1 r2 r3 r4 r5 r6)
    simp only[Nat.zero_add]at Z
    go_wp2_with fail
    generalize V:World.setCell _ _ _=W3 at*
    clear V
    have U:∀b,b≠w.heap.size->b≠w.heap.size+1->W3.heap[b]? =wr.heap[b]? :=λb A ac=>(Z.out.oth b ac).trans (aC.out b A)
    have aK:W3.heap.size=wr.heap.size:=Z.out.size.trans aQ.out
    have ab:∀Q b,w.heap.size+2<=Q->Nr (λb=>ok b/\b<w.heap.size) w.heap.size Q true wr b->(b≠w.heap.size/\b≠w.heap.size+1)/\Nr ok w.heap.size w.heap.size true W3 b:=λQ b hQ A=>by
     have am:b≠w.heap.size/\b≠w.heap.size+1:=by rcases A.1 with⟨-,-,h⟩ | h <;> omega
     exact⟨am,A.1.imp (λq=>⟨q.1,q.2.1.1,q.2.2⟩) (λq=>by omega),by rw[aK];exact A.2.1,λe=>(A.2.2 e).same (U b am.1 am.2)⟩
    have aq:gb (Nr ok w.heap.size w.heap.size true W3) W3 (.slice N k M) m:=by
     have q:=HO.out.vals
     rw[HE.out]at q
     exact(q.kept (λb A=>have h2:=(ab _ b (by omega) A).1;U b h2.1 h2.2)).mono λb A=>(ab _ b (by omega) A).2
    have aM:Strs (Nr ok w.heap.size w.heap.size true W3) W3 (.slice a5 h.keys.length c5) h.keys:=by
     have q:=ba.out.kept (λb A=>HQ.out.block b A.2.1)
     have hm:∀b,Nr (λb=>ok b/\b<w.heap.size) w.heap.size (w.heap.size+2) true O b->Nr (λb=>ok b/\b<w.heap.size) w.heap.size (w.heap.size+2) true wr b:=λb A=>⟨A.1,AI A.2.1 aH,λe=>(A.2.2 e).same (HQ.out.block b A.2.1)⟩
     exact((q.mono hm).kept (λb A=>have h2:=(ab _ b (AG _) A).1;U b h2.1 h2.2)).mono λb A=>(ab _ b (AG _) A).2
    have aP:Below w.heap.size w W3:=aa.out.trans (Z.out.below (by omega))
    refine⟨rfl,_,iZ rfl rfl Z.out.is,?_⟩
    obtain⟨_,_,he,-⟩:=id aq
    cases he
    exact⟨a5,c5,N,M,rfl,⟨aM,aq⟩,aP⟩
  | cons gh kd r=>
    simp only[Vl.len]at hk
    simp only[eX]at aN
    have bd:(k:Int)<(m.len:Int):=by omega
    have bj:(0:Int)<=(k:Int):=by omega
    obtain⟨b,o,rfl,A,R⟩:=aV.out (by simp)
    have aW:Hid (jE ok (some ⟨b,o,none⟩) w r (k+1)):=λ_=>⟨b,o,rfl,A,by have:=R.2.2;rwa[show o+k*7+7=o+(k+1)*7 by omega]at this⟩
    obtain⟨⟨c0,c1,c2,c3,c4,v5,c5,ax⟩,⟨ag,cg,c6,k1,k2,k3⟩,-⟩:=fF.kept (λb A=>HB.out.block b A.2) _ _ _ A R
    obtain⟨aw,av,au⟩:=aT.out
    have aB:=AF au
    have bg:=HB.out.size
    obtain⟨⟨E,yk⟩,hy⟩:∃y:Va,⟨gh,kd⟩=y:=⟨_,rfl⟩
    have KC:Hid (∀W,Below wr.heap.size wr W->Calls Tryz.prog 11 #[.agg #[.int .u8 (gh.kind:Nat),.bool gh.b,.int .i64 gh.n,.int .u64 (gh.bits:Nat),.string gh.text,v5,.slice ag kd.len cg]] W (Ae ⟨E,yk⟩ (λb=>ok b/\b<w.heap.size) true W)):=λW hW=>by
     rw[<-hy]
     exact IH.out ⟨gh,kd⟩ (by show eX kd<n;omega) (λb=>ok b/\b<w.heap.size) _ W ⟨aw,av,by show eX kd<=_;omega⟩ (g9.kept ⟨_,_,rfl,ax,ag,cg,rfl,k1,k2,k3⟩ (λb A=>hW.block b (by have:=A.2;omega)))
    have HY:=AF hy
    obtain⟨bo,bn,rfl⟩:=ax.cases
    have ae:=AF hk
    clear R k3 aw av au hk hy
    have bi:k+1+r.len<=m.len:=by have:=ae.out;omega
    go_wp2_with fail
    refine(KC.out wr (AH _ _)).mono ?_
    rintro e w2 ⟨n1,m1,n2,m2,rfl,ar,ac⟩
    have aS:=AF ar
    have aa:=AF ac
    clear ar ac KC c0 c1 c2 c3 c4 c5 c6 p6
    have a7:Hid (oQ (λb=>ok b/\b<w.heap.size) w.heap.size O.heap.size true w2 (.slice N k M) d):=HO.out.below aa.out
    have ah:Hid (Below w2.heap.size w2 (w2.alloc (.cells #[.int .u8 (E.kind:Nat),.bool E.b,.int .i64 E.n,.int .u64 (E.bits:Nat),.string E.text,.slice n1 E.keys.length m1,.slice n2 yk.len m2] 31))):=(AH _ w2).alloc (AG _) _
    have aR:Hid (fu (Nv (λb=>ok b/\b<w.heap.size) w.heap.size O.heap.size true (w2.alloc (.cells #[.int .u8 (E.kind:Nat),.bool E.b,.int .i64 E.n,.int .u64 (E.bits:Nat),.string E.text,.slice n1 E.keys.length m1,.slice n2 yk.len m2] 31)) (.slice N k M)) (w2.alloc (.cells #[.int .u8 (E.kind:Nat),.bool E.b,.int .i64 E.n,.int .u64 (E.bits:Nat),.string E.text,.slice n1 E.keys.length m1,.slice n2 yk.len m2] 31)) ⟨E,yk⟩ n1 m1 n2 m2):=
     (aS.out.kept (λb A=>ah.out.block b A.2.1)).mono (Nr.toNv HO.out (λb A=>A.2) (by omega) (by omega) ah.out)
    have ay:(d).len<=16777216:=by omega
    have be:wr.heap.size<=w2.heap.size:=aa.out.size
    go_wp2_with (at_builtin;refine xO rfl _ _ rfl (λb=>ok b/\b<w.heap.size) w.heap.size O.heap.size true (.slice N k M) d rfl (a7.out.below ah.out) E yk n1 n2 m1 m2 w2.heap.size 1 rfl 31 (0,0) (heap_alloc_new w2 _) aR.out ay (by simp;omega) ?_;intro v6 w4 an az;obtain⟨a6,c6,rfl⟩:=an.shp;have aZ:=AF an;have bc:Hid (Below O.heap.size O w4):=((HQ.out.trans (aa.out.mono (by omega))).trans (ah.out.mono (by omega))).trans az;clear an az)
    have a8:Hid ((Vl.app d (.cons E yk .nil)).len=k+1):=by unfold Hid;rw[Vl.len_app];simp only[Vl.len];omega
    have ai:Hid (∃(k':Nat) (aG:Option Addr) (aF:Nat) (d' r':Vl),Value.slice a6 (Vl.app d (.cons E yk .nil)).len c6=.slice aG k' aF/\Value.int .i64 ((k:Int)+1)=.int .i64 (k':Nat)/\k'+r'.len=m.len/\d'.len=k'/\Hid (oQ (λb=>ok b/\b<w.heap.size) w.heap.size O.heap.size true w4 (.slice a6 (Vl.app d (.cons E yk .nil)).len c6) d')/\Hid (Vl.app d' r'=m)/\Hid (jE ok (some ⟨b,o,none⟩) w r' k')/\eX r'<=eX m/\Hid (smX r')/\Hid (Below O.heap.size O w4)):=⟨k+1,a6,c6,Vl.app d (.cons gh kd .nil),r,by rw[a8.out],by go_num,by have:=ae.out;omega,by rw[Vl.len_app];simp only[Vl.len];omega,by unfold Hid;have q:=HY.out;injection q with q1 q2;rw[q1,q2];exact aZ.out,by unfold Hid;rw[Vl.app_one];exact HD.out,aW,by omega,aB,bc⟩
    first
    | exact⟨ai.out,by simp[intOf];have:=ae.out;omega⟩
    | exact⟨⟨_,_,_,_,_,_,_,_,_,_,_,_,_,_,_,_,_,_,ai.out,rfl⟩,by simp[intOf];have:=ae.out;omega⟩
theorem yZ (n:Nat):tq n:=by
 induction n with
 | zero=>intro x h;exact absurd h (Nat.not_lt_zero _)
 | succ n m=>exact xF n m
theorem lq (x:Va)(ok:Nat->Prop)(v:Value)(w:World)(m:Va.sm x)(hx:g9 ok w v x):Calls Tryz.prog 11 #[v] w (Ae x ok true w):=
 yZ (eX x.items+1) x (Nat.lt_succ_self _) ok v w m hx
end Go.Proofs.YtepcpgdfbaklfaaGreatDoor
