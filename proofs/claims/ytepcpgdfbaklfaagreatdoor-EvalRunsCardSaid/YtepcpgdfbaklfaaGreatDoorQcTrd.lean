/- The contract of the reader's add. The condition: no list is longer than 2 to the 24th. -/
import Derived.Test.YtepcpgdfbaklfaaGreatDoorQcTrc
import Derived.Deep.RegionLaw
import Derived.Deep.RegionHeldLaw
import Derived.Test.YtepcpgdfbaklfaaGreatDoorQcTma
set_option maxRecDepth 100000
set_option maxHeartbeats 4000000
set_option linter.unusedVariables false
namespace Go.Proofs.YtepcpgdfbaklfaaGreatDoor
open Go.RowKit Go.Shelf
theorem ju:(Tryz.prog.info? 56).map (λi=>(i.zero,i.size,i.bytes))=some (some (.agg #[.int .u8 0,.int .i64 0,.string ⟨#[]⟩,.bool false,.slice none 0 0,.string ⟨#[]⟩,.slice none 0 0,.slice none 0 0]),8,128):=by kernel_rfl
theorem iv (B q bx:Nat)(hq:q<=16777216)(s:St)(h:Hd)(at_:Nat)(aO:at_<=16777216)(hp:h.pos=(at_:Int))(G:Nat->Nat)(bs:List Nat)(sv dv cv vn:Value)(w:World)(J:RdG B q bx s G bs sv dv cv w)(hn:Strs (Ok G w) w vn h.names):
 Calls Tryz.prog 46 #[.pointer (some ⟨bx,0,none⟩),.agg #[.int .u8 (h.kind:Nat),.int .i64 (at_:Nat),.string h.text,.bool h.root,vn,.string h.name,.slice none 0 0,.slice none 0 0]] w (ew B (q+1) bx w (s.add h at_)):=by
 obtain⟨c0,c1,c2,c3,c4,fz⟩:=J.cells
 obtain⟨O,a7,g,c,rfl,hl,rfl,aN,aM,ar,hF,hS,E⟩:=J.top
 obtain⟨ad,K,U,aD,aE,kv,A,ab,ac,hK⟩:=hF
 have hm:=J.l1
 have aK:=J.l2
 have av:=dX J.hx
 have ap:=dX A
 have aL:=ej E
 have aW:bx≠O:=λe=>by have:=J.cx;rw[e,K]at this;omega
 have aV:bx≠g:=λe=>by have:=J.cx;rw[e,ar]at this;omega
 have aU:O≠g:=λe=>by rw[e,ar]at K;omega
 obtain⟨Z,Y,rfl,n1,n2,n3⟩:=hn
 obtain⟨PB,az⟩:∃o:Obj,Obj.cells #[.int .u8 (h.kind:Nat),.int .i64 (at_:Nat),.string h.text,.bool h.root,.slice Z h.names.length Y,.string h.name,.slice none 0 0,.slice none 0 0] 56 (0,0)=o:=⟨_,rfl⟩
 have k3:(w.alloc PB).cell? ⟨bx,3,none⟩=some (.int .i64 (s.many:Nat)):=(World.cell?_alloc_old w _ _ (Nat.ne_of_lt av)).trans c3
 have kz:(w.alloc PB).frozen? ⟨bx,3,none⟩=false:=(World.frozen?_of_block (w:=w) (Below.heap_alloc _ _ _ av)).trans (fz 3)
 have HC:Hid (gA (λ_=>True) G G w (w.alloc PB)):=⟨by simp,λb hb _=>⟨rfl,Below.heap_alloc _ _ _ hb⟩⟩
 have V:=J.same HC.out (λ_=>trivial) (AG q)
 have CT:=lp B bx at_ s.many hm aO _ k3 kz
 have TP:=gF bx g s.rest.length O c
 by_cases N:1024<s.many+1
 · rw[if_pos N]at CT
   have HE:Hid (s.add h at_=.err 196 at_):=by unfold Hid St.add St.count;rw[if_pos N];rfl
   have HB:Hid (Below B w ((w.alloc PB).setCell ⟨bx,3,none⟩ (.int .i64 ((s.many+1:Nat):Int)))):=((AH B w).alloc J.hB _).setCell J.bb _
   subst az
   have ae:=AF CT
   clear J V CT N k3 kz HC TP hK ac ab hS n3
   go_enter Tryz.func46,Tryz.ntmps46
   go_wp2_with fail
   refine ae.out.mono ?_
   rintro e w1 ⟨rfl,R⟩
   have aB:=HB.out
   rw[R]at aB
   clear R
   go_wp2_with fail
   rw[HE.out]
   exact⟨rfl,aB,rfl⟩
 rw[if_neg N]at CT
 have I:=V.counted (by omega)
 have r:((w.alloc PB).setCell ⟨bx,3,none⟩ (.int .i64 ((s.many+1:Nat):Int))).heap[w.heap.size]? =some PB:=by
  rw[Below.heap_setCell _ _ _ _ (show w.heap.size≠bx by omega)];exact heap_alloc_new w PB
 have aj:Below B w ((w.alloc PB).setCell ⟨bx,3,none⟩ (.int .i64 ((s.many+1:Nat):Int))):=((AH B w).alloc J.hB _).setCell J.bb _
 have HE:Hid (s.add h at_=.ok (({s with many:=s.many+1}:St).put h .nil .nil)):=by unfold Hid St.add St.count;rw[if_neg N];rfl
 rw[HE.out]
 subst az
 have ae:=AF CT
 have ao:Strs (Ok G ((w.alloc _).setCell ⟨bx,3,none⟩ (.int .i64 ((s.many+1:Nat):Int)))) _ (.slice Z h.names.length Y) h.names:=(jk G _ bx 3 1 _ J.cx).strs (by decide) (HC.out.strs trivial ⟨Z,Y,rfl,n1,n2,n3⟩)
 clear CT N k3 kz HC hK ac ab hS n3 c0 c1 c2 c3 c4 fz E A J V ap aL U ad K
 go_enter Tryz.func46,Tryz.ntmps46
 go_wp2_with fail
 refine ae.out.mono ?_
 rintro e w1 ⟨rfl,R⟩
 rw[R]at I r aj ao
 clear ae R
 obtain⟨c0,c1,c2,c3,c4,fz⟩:=I.cells
 obtain⟨⟨ad,K,U,aD,aE,kv,A,ab,ac,hK⟩,hS,E⟩:=I.top'
 replace K:G O=5+2*s.rest.length:=K
 replace U:s.top.kids.len<=q:=U
 replace E:w1.cell? ⟨g,s.rest.length,none⟩=some (.pointer (some ⟨O,0,none⟩)):=E
 have au:=dX I.hx
 have aq:=dX A
 have V:=ej E
 have a6:w1.cell? ⟨O,13,none⟩=some kv:=by rw[dW A];rfl
 have aZ:=dY A
 have aT:∀o,(w1.alloc o).cell? ⟨bx,0,none⟩=some (.slice (some ⟨g,0,none⟩) (s.rest.length+1) c):=λo=>(World.cell?_alloc_old w1 _ _ (Nat.ne_of_lt au)).trans c0
 have aS:∀o,(w1.alloc o).cell? ⟨g,s.rest.length,none⟩=some (.pointer (some ⟨O,0,none⟩)):=λo=>(World.cell?_alloc_old w1 _ _ (Nat.ne_of_lt V)).trans E
 have p0:w1.cell? ⟨w.heap.size,0,none⟩=some (.int .u8 (h.kind:Nat)):=by rw[dW r];rfl
 have p1:w1.cell? ⟨w.heap.size,1,none⟩=some (.int .i64 (at_:Nat)):=by rw[dW r];rfl
 have p2:w1.cell? ⟨w.heap.size,2,none⟩=some (.string h.text):=by rw[dW r];rfl
 have p3:w1.cell? ⟨w.heap.size,3,none⟩=some (.bool h.root):=by rw[dW r];rfl
 have p4:w1.cell? ⟨w.heap.size,4,none⟩=some (.slice Z h.names.length Y):=by rw[dW r];rfl
 have p5:w1.cell? ⟨w.heap.size,5,none⟩=some (.string h.name):=by rw[dW r];rfl
 have p6:w1.cell? ⟨w.heap.size,6,none⟩=some (.slice none 0 0):=by rw[dW r];rfl
 have p7:w1.cell? ⟨w.heap.size,7,none⟩=some (.slice none 0 0):=by rw[dW r];rfl
 obtain⟨cs,⟨af,M⟩,al⟩:=hK
 replace M:∀g,kv.ownBlock=some g->G g=6+2*s.rest.length:=M
 have ag:∀o,(w1.alloc o).ownsRow B 56 8 kv s.top.kids.len cs:=λo=>World.ownsRow.alloc af o
 have aa:∀j u,(ey h (.slice Z h.names.length Y) (.slice none 0 0) (.slice none 0 0))[j]? =some u->(w1.alloc (.cells #[.int .u8 (h.kind:Nat),.int .i64 (at_:Nat),.string h.text,.bool h.root,.slice Z h.names.length Y,.string h.name,.slice none 0 0,.slice none 0 0] 56)).cell? ((⟨w1.heap.size,0,none⟩:Addr).add j)=some u:=by
  intro j u hj
  have hb:=heap_alloc_new w1 (.cells #[.int .u8 (h.kind:Nat),.int .i64 (at_:Nat),.string h.text,.bool h.root,.slice Z h.names.length Y,.string h.name,.slice none 0 0,.slice none 0 0] 56)
  have ay:(⟨w1.heap.size,0,none⟩:Addr).add j=⟨w1.heap.size,j,none⟩:=by unfold Addr.add;split <;> simp_all
  rw[ay,dW hb]
  unfold ey at hj
  rw[hp]at hj
  simpa using hj
 have am:∀u∈ey h (.slice Z h.names.length Y) (.slice none 0 0) (.slice none 0 0),u.oneCell'=true:=by
  intro u hu
  simp only[ey,List.mem_cons,List.not_mem_nil,or_false]at hu
  rcases hu with rfl | rfl | rfl | rfl | rfl | rfl | rfl | rfl <;> rfl
 obtain⟨i0,hi,aI,aH,aG⟩:=info_parts ju
 have aY:B<=w1.heap.size+1:=by have:=aj.size;have:=I.hB;omega
 have aJ:some O≠kv.ownBlock:=λe=>by have:=M O e.symm;omega
 have aP:s.top.kids.len+1<=maxLen:=by unfold maxLen;omega
 have aQ:(s.top.kids.len+1)*128<=140737488355328:=by omega
 go_wp2
 go_region_law (first | (go_simp;go_at_call 77;refine(TP _ aK aN aM (by first | exact c0 | exact aT _) (by first | exact E | exact aS _)).mono ?_;rintro e wt ⟨rfl,rfl⟩) | (refine step_append_lies _ (by rfl) _ _ _ (by rfl) B 56 i0 _ 8 128 Tryz.underlying22 hi aI aH aG (by rfl) (by decide) kv s.top.kids.len cs (by rfl) (by exact ag _) ⟨w1.heap.size,0,none⟩ 1 1 (ey h (.slice Z h.names.length Y) (.slice none 0 0) (.slice none 0 0)) (by rfl) (by rfl) (by exact aa) am (by decide) aP aQ (by simp;omega) (w1.heap.size+1) (by simp) ?_;intro g2 aA w2 ah m ax aX;have W:=(m.block O (by simp;omega) aJ).trans ((Below.heap_alloc _ _ _ aq).trans A);have aF:w2.cell? ⟨O,13,none⟩=some kv:=(by rw[dW W];rfl);have aC:=dY W 13))
 all_goals
  have ai:(w1.alloc (.cells #[.int .u8 (h.kind:Nat),.int .i64 (at_:Nat),.string h.text,.bool h.root,.slice Z h.names.length Y,.string h.name,.slice none 0 0,.slice none 0 0] 56)).grownBy w2 kv.ownBlock:=⟨m.os,m.tape,m.output,m.size,m.block⟩
  clear W aF aC m
  have ak:w1.heap.size<=w2.heap.size:=by have:=ai.size;simp at this;omega
  have aw:∀b,b<w1.heap.size->some b≠kv.ownBlock->w2.heap[b]? =w1.heap[b]? :=λb hb hn=>(ai.block b (by simp;omega) hn).trans (Below.heap_alloc _ _ _ hb)
  have hF:=I.appended ad K U A ab ac hS M al ao (d8.nil _ _) (d8.nil _ _) ak aw ah (ax.imp id (λe=>by omega))
  have aR:Below B w (w2.setCell ⟨O,13,none⟩ (.slice (some ⟨g2,0,none⟩) (s.top.kids.len+1) aA)):=((aj.alloc I.hB _).grown ai (by simp;omega) (λk hk=>(World.ownsRow.lt af k hk).1)).setCell ad _
  go_end0
  exact⟨aR,rfl,hF⟩
theorem RdG.reframe {B q q' bx E:Nat}{s:St}{A o:Nat->Nat}{K:List Nat}{M O R:Value}{w w2:World}{N:Fr}(m:RdG B q bx s A (E::K) M O R w)
 (r:gA (λc=>c≠5+2*s.rest.length/\c≠6+2*s.rest.length) A o w w2) (G:q<=q') (Y:FrM B o w2 q' s.rest.length E N):RdG B q' bx {s with top:=N} o (E::K) M O R w2:=by
 have c0:(λc=>c≠5+2*s.rest.length/\c≠6+2*s.rest.length) 0:=⟨by omega,by omega⟩
 obtain⟨Z,aa,W,-,J⟩:=m.fr
 injection W with e1 e2
 subst e1;subst e2
 exact{
  bb:=m.bb
  cx:=(r.2 bx (dX m.hx) (by rw[m.cx];omega)).1.trans m.cx
  hx:=(r.2 bx (dX m.hx) (by rw[m.cx];omega)).2.trans m.hx
  st:=m.st.same r ⟨by omega,by omega⟩
  fr:=⟨E,K,rfl,Y,J.same r c0 G _ _ (λi V=>by have U:i<s.rest.length:=V;exact⟨⟨by omega,by omega⟩,⟨by omega,by omega⟩⟩)⟩
  df:=m.df.same r c0 ⟨by omega,by omega⟩
  cl:=m.cl.same r ⟨by omega,by omega⟩
  l1:=m.l1
  l2:=m.l2
  l3:=Nat.le_trans m.l3 G
  l4:=Nat.le_trans m.l4 G
  hB:=Nat.le_trans m.hB r.1
  ol:=λb I=>(r.2 b (AI I m.hB) (by rw[m.ol b I];omega)).1.trans (m.ol b I)}
def lF (m:Nat->Nat)(v:Value)(b:Nat):Nat:=if v.ownBlock=some b then 0 else m b
theorem iE {m:Nat->Nat}{v:Value}{b c:Nat}(o:∀g,v.ownBlock=some g->m g=c)(r:m b≠c):lF m v b=m b:=if_neg (λe=>r (o b e))
theorem ownsRow.same {w w':World}{B n r:Nat}{e:TypeId}{v:Value}{o:List Value}(h:w.ownsRow B e r v n o)(E:∀g,v.ownBlock=some g->w'.heap[g]? =w.heap[g]?):w'.ownsRow B e r v n o:=by
 refine⟨h.1,?_⟩
 rcases h.2 with h | ⟨g,cap,m,A,J,I,G⟩
 · exact .inl h
 · exact .inr ⟨g,cap,m,A,J,(E g (by rw[A];rfl)).trans I,G⟩
theorem iA {C:Nat->Prop}{B c:Nat}{m:Nat->Nat}{w w':World}{o:Value}{t:Pt}(h:oO B m w c o t)(E:gA C m (lF m o) w w')(J:C 0)(A:∀g,o.ownBlock=some g->w'.heap[g]? =w.heap[g]?):d8 (Ok (lF m o) w') w' o t:=by
 obtain⟨cs,⟨I,K⟩,G⟩:=h
 exact oO.parts ⟨cs,⟨ownsRow.same I A,λg r=>if_pos r⟩,iI.same E J _ _ G⟩
theorem oO.slice {B c:Nat}{m:Nat->Nat}{w:World}{o:Value}{t:Pt}(h:oO B m w c o t):∃a k,o=.slice a t.len k:=by
 obtain⟨cs,⟨⟨-,r⟩,-⟩,-⟩:=h
 rcases r with⟨h,A⟩ | ⟨g,cap,E,h,-⟩
 · exact⟨none,0,by rw[h,A]⟩
 · exact⟨_,cap,h⟩
def yX (f:Fr):Fr:={f with els:=true,fst:=f.kids,kids:=.nil}
theorem FrM.elsed {B q E m:Nat}{o:Nat->Nat}{w:World}{f:Fr}(h:FrM B o w q E m f){O R r:Value}(hh:w.heap[m]? =some (.cells (frCells f O R r) 100 (0,0))):
 gA (λc=>c≠5+2*E/\c≠6+2*E) o (lF o r) w (((w.setCell ⟨m,12,none⟩ (.bool true)).setCell ⟨m,6,none⟩ r).setCell ⟨m,13,none⟩ (.slice none 0 0))/\
 FrM B (lF o r) (((w.setCell ⟨m,12,none⟩ (.bool true)).setCell ⟨m,6,none⟩ r).setCell ⟨m,13,none⟩ (.slice none 0 0)) q E m (yX f):=by
 obtain⟨V,G,aa,I,J,K,N,U,ab,hK⟩:=h
 have Z:frCells f O R r=frCells f I J K:=by
  have:=hh.symm.trans N
  injection this with this
  injection this
 have en:O=I:=congrArg (λc:Array Value=>c[4]!) Z
 have ek:R=J:=congrArg (λc:Array Value=>c[6]!) Z
 have ev:r=K:=congrArg (λc:Array Value=>c[13]!) Z
 subst en;subst ek;subst ev
 have A:∀g,r.ownBlock=some g->o g=6+2*E:=by
  obtain⟨cs,⟨-,h2⟩,-⟩:=hK
  exact h2
 have M:∀b,b≠m->(((w.setCell ⟨m,12,none⟩ (.bool true)).setCell ⟨m,6,none⟩ r).setCell ⟨m,13,none⟩ (.slice none 0 0)).heap[b]? =w.heap[b]? :=λb W=>by
  rw[Below.heap_setCell _ _ _ _ W,Below.heap_setCell _ _ _ _ W,Below.heap_setCell _ _ _ _ W]
 have Y:gA (λc=>c≠5+2*E/\c≠6+2*E) o (lF o r) w (((w.setCell ⟨m,12,none⟩ (.bool true)).setCell ⟨m,6,none⟩ r).setCell ⟨m,13,none⟩ (.slice none 0 0)):=
  ⟨by simp[World.setCell],λb _ hc=>⟨iE A hc.2,M b (λe=>hc.1 (by rw[e];exact G))⟩⟩
 have c0:(λc=>c≠5+2*E/\c≠6+2*E) 0:=⟨by omega,by omega⟩
 refine⟨Y,V,?_,Nat.zero_le _,O,r,.slice none 0 0,?_,Y.strs c0 U,?_,oO.nil _ _ _ _⟩
 · rw[iE A (by omega)];exact G
 · have h1:=d7 (j:=13) (d7 (j:=6) (d7 (j:=12) N (.bool true)) r) (.slice none 0 0)
   exact h1
 · exact iA hK Y c0 (λg hg=>M g (λe=>by have:=A g hg;rw[e,G]at this;omega))
theorem mR (s:St)(at_:Nat)(h:s.rest=[]\/s.top.kind=6\/s.top.els=true):s.elseA at_=.err 192 at_:=if_pos h
theorem xB (s:St)(at_:Nat)(h:¬(s.rest=[]\/s.top.kind=6\/s.top.els=true)):s.elseA at_=.ok {s with top:=yX s.top}:=if_neg h
theorem kP (B q bx at_:Nat)(ag:at_<=16777216)(s:St)(wv:Value)(w:World)(h:RdM B q bx s w):
 Calls Tryz.prog 85 #[.pointer (some ⟨bx,0,none⟩),wv,.int .i64 (at_:Nat)] w (ew B q bx w (s.elseA at_)):=by
 obtain⟨aj,bs,sv,dv,cv,M⟩:=h
 obtain⟨c0,c1,c2,c3,c4,fz⟩:=M.cells
 obtain⟨K,ak,g,c,rfl,hl,rfl,aa,Z,ae,hF,-,O⟩:=M.top
 obtain⟨N,af,ad,vn,vk,kv,m,W,Y,hK⟩:=hF
 obtain⟨ka,kc,rfl⟩:=hK.slice
 have V:=M.l2
 have U:=AF (gF bx g s.rest.length K c w V aa Z c0 O)
 have o:w.cell? ⟨K,11,none⟩=some (.bool (s.top.kind==6)):=by rw[dW m];rfl
 have R:w.cell? ⟨K,12,none⟩=some (.bool s.top.els):=by rw[dW m];rfl
 have ai:w.cell? ⟨K,13,none⟩=some (.slice ka s.top.kids.len kc):=by rw[dW m];rfl
 have f6:w.cell? ⟨K,6,none⟩=some vk:=by rw[dW m];rfl
 have ah:=dY m
 have HG:=AF M
 have HH:=AF m
 have G:=AF N
 clear M W Y hK O c1 c2 c3 c4 m N
 by_cases r:s.rest=[]
 · have I:=AF (mR s at_ (.inl r))
   have t1:((s.rest.length:Int)+1==1)=true:=by rw[r];rfl
   clear r
   go_enter Tryz.func85,Tryz.ntmps85
   go_wp2_with fail
   refine U.out.mono ?_
   rintro e w1 ⟨rfl,rfl⟩
   go_wp2_with fail
   rw[I.out]
   exact⟨rfl,(Sl.drew w).below B,rfl⟩
 have ac:0<s.rest.length:=List.length_pos_iff.2 r
 have t1:((s.rest.length:Int)+1==1)=false:=by rw[beq_eq_false_iff_ne];omega
 by_cases E:s.top.kind=6
 · have I:=AF (mR s at_ (.inr (.inl E)))
   rw[E]at o
   replace o:w.cell? ⟨K,11,none⟩=some (.bool true):=o
   clear r E
   go_enter Tryz.func85,Tryz.ntmps85
   go_wp2_with fail
   refine U.out.mono ?_
   rintro e w1 ⟨rfl,rfl⟩
   go_wp2_with fail
   rw[I.out]
   exact⟨rfl,(Sl.drew w).below B,rfl⟩
 have A:(s.top.kind==6)=false:=beq_eq_false_iff_ne.2 E
 rw[A]at o
 cases J:s.top.els with
 | true=>
   have I:=AF (mR s at_ (.inr (.inr J)))
   rw[J]at R
   clear r E A J
   go_enter Tryz.func85,Tryz.ntmps85
   go_wp2_with fail
   refine U.out.mono ?_
   rintro e w1 ⟨rfl,rfl⟩
   go_wp2_with fail
   rw[I.out]
   exact⟨rfl,(Sl.drew w).below B,rfl⟩
 | false=>
   have I:=AF (xB s at_ (by rw[J];simp[r,E]))
   rw[J]at R
   clear r E A J
   go_enter Tryz.func85,Tryz.ntmps85
   go_wp2_with fail
   refine U.out.mono ?_
   rintro e w1 ⟨rfl,rfl⟩
   go_wp2_with fail
   go_end0
   rw[I.out]
   obtain⟨hS,ab⟩:=(HG.out.top'.1).elsed HH.out
   have hr:=(HG.out.reframe hS (AG q) ab).same ((Sl.drew _).same (λ_=>True) _) (λ_=>trivial) (AG q)
   exact⟨(((((AH B w).setCell G.out _).setCell G.out _).setCell G.out _)).trans ((Sl.drew _).below B),rfl,_,_,_,_,_,hr⟩
end Go.Proofs.YtepcpgdfbaklfaaGreatDoor
