/- The contract of the reader's end at an if or a range, and where nothing is to be ended. The condition: no list is longer than 2 to the 24th. -/
import Derived.Test.YtepcpgdfbaklfaaGreatDoorQcTen
set_option maxRecDepth 100000
set_option maxHeartbeats 4000000
set_option linter.unusedVariables false
namespace Go.Proofs.YtepcpgdfbaklfaaGreatDoor
open Go.RowKit Go.Shelf
theorem vg (B q bx at_:Nat)(G:at_<=16777216)(s:St)(r:Value)(w:World)(h:RdM B q bx s w)(m:s.rest=[]):
 Calls Tryz.prog 86 #[.pointer (some ⟨bx,0,none⟩),r,.int .i64 (at_:Nat)] w (ew B q bx w (s.endA at_)):=by
 obtain⟨I,V,N,R,U,o⟩:=h
 obtain⟨c0,-,-,-,-,fz⟩:=o.cells
 obtain⟨O,J,g,c,-,-,rfl,E,A,-,-,-,-⟩:=o.top
 have K:Hid (s.endA at_=.err 192 at_):=by unfold Hid St.endA;rw[m]
 have M:((s.rest.length:Int)+1==1)=true:=by rw[m];rfl
 clear m o
 go_enter Tryz.func86,Tryz.ntmps86
 go_wp2_with fail
 rw[K.out]
 exact⟨rfl,AH _ _,rfl⟩
theorem yW (B q bx at_:Nat)(hq:q<=16777216)(bt:at_<=16777216)(f f2:Fr)(r:List Fr)(defs:List Df)(many:Nat)(calls:List (By×Nat))(aK:f.kind≠6)(wv:Value)(w:World)(h:RdM B q bx ⟨f,f2::r,defs,many,calls⟩ w):
 Calls Tryz.prog 86 #[.pointer (some ⟨bx,0,none⟩),wv,.int .i64 (at_:Nat)] w (ew B (q+1) bx w (St.endA at_ ⟨f,f2::r,defs,many,calls⟩)):=by
 obtain⟨bu,bs,sv,dv,cv,hg⟩:=h
 obtain⟨c0,-,-,-,-,fz⟩:=hg.cells
 obtain⟨fb,bv,g,c,rfl,hl,rfl,aR,aQ,br,hF,-,ba⟩:=hg.top
 obtain⟨a8,bc,bj,vn,vk,kv,ae,bk,bm,hK⟩:=hF
 obtain⟨ka,kc,rfl⟩:=hK.slice
 obtain⟨va,vc,rfl,-⟩:=bk
 obtain⟨pa,pc,rfl,-⟩:=bm
 have bi:r.length+1<=64:=hg.l2
 replace c0:w.cell? ⟨bx,0,none⟩=some (.slice (some ⟨g,0,none⟩) (r.length+1+1) c):=c0
 have TP:=AF (gF bx g (r.length+1) fb c w bi aR aQ c0 ba)
 replace aR:r.length+1+1<=c:=aR
 have HC:=AF (tC hg aK ae)
 have f6:w.cell? ⟨fb,6,none⟩=some (.slice pa f.fst.len pc):=by rw[dW ae];rfl
 have f7:w.cell? ⟨fb,7,none⟩=some (.slice none 0 0):=by rw[dW ae];rfl
 have bd:w.cell? ⟨fb,11,none⟩=some (.bool false):=by rw[dW ae];show some (Value.bool (f.kind==6))=_;rw[beq_eq_false_iff_ne.2 aK]
 have aB:w.cell? ⟨fb,12,none⟩=some (.bool f.els):=by rw[dW ae];rfl
 have aA:w.cell? ⟨fb,13,none⟩=some (.slice ka f.kids.len kc):=by rw[dW ae];rfl
 have az:=dY ae
 have bp:bx≠fb:=λe=>by have:=hg.cx;rw[e,bc]at this;omega
 have bf:Hid (B<=bx):=hg.bb
 have be:Hid (B<=fb):=a8
 have t1:((r.length:Int)+1+1==1)=false:=by rw[beq_eq_false_iff_ne];omega
 have wn:IntKind.i64.wrap ((r.length:Int)+1+1 - 1)=(r.length:Int)+1:=by rw[IntWalk.i64_in _ (by omega)];omega
 have bq:IntKind.i64.wrap ((r.length:Int)+1+1+ -1)=(r.length:Int)+1:=by rw[IntWalk.i64_in _ (by omega)];omega
 have HE:Hid (St.endA at_ ⟨f,f2::r,defs,many,calls⟩=.ok ((⟨f2,r,defs,many,calls⟩:St).put (ip f.kind f.pos f.root f.names) (if f.els then f.fst else f.kids) (if f.els then f.kids else .nil))):=if_neg aK
 clear hg ae ba bj hK bc a8
 cases he:f.els with
 | false=>
   rw[he]at aB HE
   have ak:=AF (HC.out.1 he)
   clear HC he
   go_enter Tryz.func86,Tryz.ntmps86
   go_wp2_with fail
   refine TP.out.mono ?_
   rintro e w1 ⟨rfl,rfl⟩
   go_wp2_with fail
   go_region
   all_goals
    go_wp2_with fail
    generalize hW:World.setCell (World.setCell _ _ _) _ _=E
    rw[hW]at ak
    have aZ:Below B w E:=by rw[<-hW];exact((AH B w).setCell bf.out _).setCell be.out _
    clear hW TP f6 f7 bd aB aA az c0 fz
    obtain⟨ag,N,M,R,O,W,V,U,aI,aL,aN,A,a6,aO⟩:=ak.out
    clear ak
    obtain⟨c0,-,-,-,-,fz⟩:=U.cells
    obtain⟨G,bo,rfl,-,-⟩:=U.fr
    obtain⟨⟨af,ab,Z,bg,bh,I,J,ap,aq,aV⟩,aS,K⟩:=U.top'
    replace c0:E.cell? ⟨bx,0,none⟩=some (.slice (some ⟨g,0,none⟩) (r.length+1) c):=c0
    replace K:E.cell? ⟨g,r.length,none⟩=some (.pointer (some ⟨G,0,none⟩)):=K
    replace ab:ag G=5+2*r.length:=ab
    replace Z:f2.kids.len<=q:=Z
    have au:=dX U.hx
    have ar:=dX J
    have ao:=ej K
    have aA:E.cell? ⟨G,13,none⟩=some I:=by rw[dW J];rfl
    have az:=dY J
    have aY:∀o,(E.alloc o).cell? ⟨bx,0,none⟩=some (.slice (some ⟨g,0,none⟩) (r.length+1) c):=λo=>(World.cell?_alloc_old E _ _ (Nat.ne_of_lt au)).trans c0
    have aX:∀o,(E.alloc o).cell? ⟨g,r.length,none⟩=some (.pointer (some ⟨G,0,none⟩)):=λo=>(World.cell?_alloc_old E _ _ (Nat.ne_of_lt ao)).trans K
    have p0:=A 0 _ rfl
    have p1:=A 1 _ rfl
    have p2:E.cell? ⟨fb,2,none⟩=some (.string ⟨#[]⟩):=A 2 _ rfl
    have p3:=A 3 _ rfl
    have p4:=A 4 _ rfl
    have p5:E.cell? ⟨fb,5,none⟩=some (.string ⟨#[]⟩):=A 5 _ rfl
    have p6:=A 6 _ rfl
    have p7:=A 7 _ rfl
    obtain⟨cs,⟨ad,Y⟩,am⟩:=aV
    replace Y:∀g,I.ownBlock=some g->ag g=6+2*r.length:=Y
    have ah:∀o,(E.alloc o).ownsRow B 56 8 I f2.kids.len cs:=λo=>World.ownsRow.alloc ad o
    have ac:∀j u,(ey (ip f.kind f.pos f.root f.names) (.slice N f.names.length M) (.slice R f.kids.len O) (.slice W Pt.nil.len V))[j]? =some u->(E.alloc (.cells #[.int .u8 (f.kind:Nat),.int .i64 (f.pos:Nat),.string ⟨#[]⟩,.bool f.root,.slice N f.names.length M,.string ⟨#[]⟩,.slice R f.kids.len O,.slice W Pt.nil.len V] 56)).cell? ((⟨E.heap.size,0,none⟩:Addr).add j)=some u:=by
     intro j u hj
     have hb:=heap_alloc_new E (.cells #[.int .u8 (f.kind:Nat),.int .i64 (f.pos:Nat),.string ⟨#[]⟩,.bool f.root,.slice N f.names.length M,.string ⟨#[]⟩,.slice R f.kids.len O,.slice W Pt.nil.len V] 56)
     have ax:(⟨E.heap.size,0,none⟩:Addr).add j=⟨E.heap.size,j,none⟩:=by unfold Addr.add;split <;> simp_all
     rw[ax,dW hb]
     have aM:(#[.int .u8 (f.kind:Nat),.int .i64 (f.pos:Nat),.string ⟨#[]⟩,.bool f.root,.slice N f.names.length M,.string ⟨#[]⟩,.slice R f.kids.len O,.slice W Pt.nil.len V]:Array Value).toList[j]? =some u:=hj
     simpa using aM
    have an:∀u∈(ey (ip f.kind f.pos f.root f.names) (.slice N f.names.length M) (.slice R f.kids.len O) (.slice W Pt.nil.len V)),u.oneCell'=true:=by
     intro u hu
     simp only[ey,List.mem_cons,List.not_mem_nil,or_false]at hu
     rcases hu with rfl | rfl | rfl | rfl | rfl | rfl | rfl | rfl <;> rfl
    obtain⟨i0,hi,aG,aF,aE⟩:=info_parts ju
    have bn:B<=E.heap.size+1:=by have:=U.hB;omega
    have aH:some G≠I.ownBlock:=λe=>by have:=Y G e.symm;omega
    have aT:f2.kids.len+1<=maxLen:=by unfold maxLen;omega
    have aU:(f2.kids.len+1)*128<=140737488355328:=by omega
    have aJ:r.length<=64:=by omega
    have aP:r.length+1<=c:=by omega
    clear A
    go_region_law (first | (go_simp;go_at_call 77;refine(gF bx g r.length G c _ aJ aP aQ (by first | exact c0 | exact aY _) (by first | exact K | exact aX _)).mono ?_;rintro e wt ⟨rfl,rfl⟩) | (refine step_append_lies _ (by rfl) _ _ _ (by rfl) B 56 i0 _ 8 128 Tryz.underlying22 hi aG aF aE (by rfl) (by decide) I f2.kids.len cs (by rfl) (by exact ah _) ⟨E.heap.size,0,none⟩ 1 1 (ey (ip f.kind f.pos f.root f.names) (.slice N f.names.length M) (.slice R f.kids.len O) (.slice W Pt.nil.len V)) (by rfl) (by rfl) (by exact ac) an (by decide) aT aU (by simp;omega) (E.heap.size+1) (by simp) ?_;intro g2 ay w2 ai m aw a7;have aa:=(m.block G (by simp;omega) aH).trans ((Below.heap_alloc _ _ _ ar).trans J);have aD:w2.cell? ⟨G,13,none⟩=some I:=(by rw[dW aa];rfl);have aC:=dY aa 13))
    all_goals
     have aj:(E.alloc (.cells #[.int .u8 (f.kind:Nat),.int .i64 (f.pos:Nat),.string ⟨#[]⟩,.bool f.root,.slice N f.names.length M,.string ⟨#[]⟩,.slice R f.kids.len O,.slice W Pt.nil.len V] 56)).grownBy w2 I.ownBlock:=⟨m.os,m.tape,m.output,m.size,m.block⟩
     clear aa aD aC m
     have al:E.heap.size<=w2.heap.size:=by have:=aj.size;simp at this;omega
     have av:∀b,b<E.heap.size->some b≠I.ownBlock->w2.heap[b]? =E.heap[b]? :=λb hb hn=>(aj.block b (by simp;omega) hn).trans (Below.heap_alloc _ _ _ hb)
     have hF:=U.appended af ab Z J ap aq aS Y am aI aL aN al av ai (aw.imp id (λe=>by omega))
     have aW:Below B w (w2.setCell ⟨G,13,none⟩ (.slice (some ⟨g2,0,none⟩) (f2.kids.len+1) ay)):=((aZ.alloc U.hB _).grown aj (by simp;omega) (λk hk=>(World.ownsRow.lt ad k hk).1)).setCell af _
     go_end0
     rw[HE.out]
     exact⟨aW,rfl,hF⟩
 | true=>
   rw[he]at aB HE
   have ak:=AF (HC.out.2 he)
   clear HC he
   go_enter Tryz.func86,Tryz.ntmps86
   go_wp2_with fail
   refine TP.out.mono ?_
   rintro e w1 ⟨rfl,rfl⟩
   go_wp2_with fail
   go_region
   all_goals
    go_wp2_with fail
    generalize hW:World.setCell (World.setCell _ _ _) _ _=E
    rw[hW]at ak
    have aZ:Below B w E:=by rw[<-hW];exact((AH B w).setCell bf.out _).setCell be.out _
    clear hW TP f6 f7 bd aB aA az c0 fz
    obtain⟨ag,N,M,R,O,W,V,U,aI,aL,aN,A,a6,aO⟩:=ak.out
    clear ak
    obtain⟨c0,-,-,-,-,fz⟩:=U.cells
    obtain⟨G,bo,rfl,-,-⟩:=U.fr
    obtain⟨⟨af,ab,Z,bg,bh,I,J,ap,aq,aV⟩,aS,K⟩:=U.top'
    replace c0:E.cell? ⟨bx,0,none⟩=some (.slice (some ⟨g,0,none⟩) (r.length+1) c):=c0
    replace K:E.cell? ⟨g,r.length,none⟩=some (.pointer (some ⟨G,0,none⟩)):=K
    replace ab:ag G=5+2*r.length:=ab
    replace Z:f2.kids.len<=q:=Z
    have au:=dX U.hx
    have ar:=dX J
    have ao:=ej K
    have aA:E.cell? ⟨G,13,none⟩=some I:=by rw[dW J];rfl
    have az:=dY J
    have aY:∀o,(E.alloc o).cell? ⟨bx,0,none⟩=some (.slice (some ⟨g,0,none⟩) (r.length+1) c):=λo=>(World.cell?_alloc_old E _ _ (Nat.ne_of_lt au)).trans c0
    have aX:∀o,(E.alloc o).cell? ⟨g,r.length,none⟩=some (.pointer (some ⟨G,0,none⟩)):=λo=>(World.cell?_alloc_old E _ _ (Nat.ne_of_lt ao)).trans K
    have p0:=A 0 _ rfl
    have p1:=A 1 _ rfl
    have p2:E.cell? ⟨fb,2,none⟩=some (.string ⟨#[]⟩):=A 2 _ rfl
    have p3:=A 3 _ rfl
    have p4:=A 4 _ rfl
    have p5:E.cell? ⟨fb,5,none⟩=some (.string ⟨#[]⟩):=A 5 _ rfl
    have p6:=A 6 _ rfl
    have p7:=A 7 _ rfl
    obtain⟨cs,⟨ad,Y⟩,am⟩:=aV
    replace Y:∀g,I.ownBlock=some g->ag g=6+2*r.length:=Y
    have ah:∀o,(E.alloc o).ownsRow B 56 8 I f2.kids.len cs:=λo=>World.ownsRow.alloc ad o
    have ac:∀j u,(ey (ip f.kind f.pos f.root f.names) (.slice N f.names.length M) (.slice R f.fst.len O) (.slice W f.kids.len V))[j]? =some u->(E.alloc (.cells #[.int .u8 (f.kind:Nat),.int .i64 (f.pos:Nat),.string ⟨#[]⟩,.bool f.root,.slice N f.names.length M,.string ⟨#[]⟩,.slice R f.fst.len O,.slice W f.kids.len V] 56)).cell? ((⟨E.heap.size,0,none⟩:Addr).add j)=some u:=by
     intro j u hj
     have hb:=heap_alloc_new E (.cells #[.int .u8 (f.kind:Nat),.int .i64 (f.pos:Nat),.string ⟨#[]⟩,.bool f.root,.slice N f.names.length M,.string ⟨#[]⟩,.slice R f.fst.len O,.slice W f.kids.len V] 56)
     have ax:(⟨E.heap.size,0,none⟩:Addr).add j=⟨E.heap.size,j,none⟩:=by unfold Addr.add;split <;> simp_all
     rw[ax,dW hb]
     have aM:(#[.int .u8 (f.kind:Nat),.int .i64 (f.pos:Nat),.string ⟨#[]⟩,.bool f.root,.slice N f.names.length M,.string ⟨#[]⟩,.slice R f.fst.len O,.slice W f.kids.len V]:Array Value).toList[j]? =some u:=hj
     simpa using aM
    have an:∀u∈(ey (ip f.kind f.pos f.root f.names) (.slice N f.names.length M) (.slice R f.fst.len O) (.slice W f.kids.len V)),u.oneCell'=true:=by
     intro u hu
     simp only[ey,List.mem_cons,List.not_mem_nil,or_false]at hu
     rcases hu with rfl | rfl | rfl | rfl | rfl | rfl | rfl | rfl <;> rfl
    obtain⟨i0,hi,aG,aF,aE⟩:=info_parts ju
    have bn:B<=E.heap.size+1:=by have:=U.hB;omega
    have aH:some G≠I.ownBlock:=λe=>by have:=Y G e.symm;omega
    have aT:f2.kids.len+1<=maxLen:=by unfold maxLen;omega
    have aU:(f2.kids.len+1)*128<=140737488355328:=by omega
    have aJ:r.length<=64:=by omega
    have aP:r.length+1<=c:=by omega
    clear A
    go_region_law (first | (go_simp;go_at_call 77;refine(gF bx g r.length G c _ aJ aP aQ (by first | exact c0 | exact aY _) (by first | exact K | exact aX _)).mono ?_;rintro e wt ⟨rfl,rfl⟩) | (refine step_append_lies _ (by rfl) _ _ _ (by rfl) B 56 i0 _ 8 128 Tryz.underlying22 hi aG aF aE (by rfl) (by decide) I f2.kids.len cs (by rfl) (by exact ah _) ⟨E.heap.size,0,none⟩ 1 1 (ey (ip f.kind f.pos f.root f.names) (.slice N f.names.length M) (.slice R f.fst.len O) (.slice W f.kids.len V)) (by rfl) (by rfl) (by exact ac) an (by decide) aT aU (by simp;omega) (E.heap.size+1) (by simp) ?_;intro g2 ay w2 ai m aw a7;have aa:=(m.block G (by simp;omega) aH).trans ((Below.heap_alloc _ _ _ ar).trans J);have aD:w2.cell? ⟨G,13,none⟩=some I:=(by rw[dW aa];rfl);have aC:=dY aa 13))
    all_goals
     have aj:(E.alloc (.cells #[.int .u8 (f.kind:Nat),.int .i64 (f.pos:Nat),.string ⟨#[]⟩,.bool f.root,.slice N f.names.length M,.string ⟨#[]⟩,.slice R f.fst.len O,.slice W f.kids.len V] 56)).grownBy w2 I.ownBlock:=⟨m.os,m.tape,m.output,m.size,m.block⟩
     clear aa aD aC m
     have al:E.heap.size<=w2.heap.size:=by have:=aj.size;simp at this;omega
     have av:∀b,b<E.heap.size->some b≠I.ownBlock->w2.heap[b]? =E.heap[b]? :=λb hb hn=>(aj.block b (by simp;omega) hn).trans (Below.heap_alloc _ _ _ hb)
     have hF:=U.appended af ab Z J ap aq aS Y am aI aL aN al av ai (aw.imp id (λe=>by omega))
     have aW:Below B w (w2.setCell ⟨G,13,none⟩ (.slice (some ⟨g2,0,none⟩) (f2.kids.len+1) ay)):=((aZ.alloc U.hB _).grown aj (by simp;omega) (λk hk=>(World.ownsRow.lt ad k hk).1)).setCell af _
     go_end0
     rw[HE.out]
     exact⟨aW,rfl,hF⟩
theorem xp:(Tryz.prog.info? 70).map (λi=>(i.zero,i.size,i.bytes))=some (some (.agg #[.string ⟨#[]⟩,.int .i64 0,.slice none 0 0]),3,48):=by kernel_rfl
def xU (B q bx o g c:Nat)(f:Fr)(s:St)(I:List Nat)(E G:Value)(W:World):Prop:=
 ∃ m A r,RdG B q bx s m I (.slice (some ⟨g,0,none⟩) (s.rest.length+1) c) E G W/\d8 (Ok m W) W (.slice A f.kids.len r) f.kids/\
   W.cell? ⟨o,8,none⟩=some (.string (mkB f.name))/\W.cell? ⟨o,9,none⟩=some (.int .i64 (f.pos:Nat))/\W.cell? ⟨o,10,none⟩=some (.slice A f.kids.len r)
theorem rx {B q bx E g c:Nat}{f f2:Fr}{r:List Fr}{defs:List Df}{many:Nat}{calls:List (By×Nat)}{m:Nat->Nat}{bs:List Nat}{dv cv:Value}{w:World}
 (I:RdG B q bx ⟨f,f2::r,defs,many,calls⟩ m (E::bs) (.slice (some ⟨g,0,none⟩) (r.length+1+1) c) dv cv w) (hk:f.kind=6) {vn vk o:Value} (hh:w.heap[E]? =some (.cells (frCells f vn vk o) 100 (0,0))):
 xU B q bx E g c f ⟨f2,r,defs,many,calls⟩ bs dv cv ((w.setCell ⟨bx,0,none⟩ (.slice (some ⟨g,0,none⟩) (r.length+1) c)).setCell ⟨E,10,none⟩ o):=by
 have hp:=I.popped
 have Z:=jk m w bx 0 1 (.slice (some ⟨g,0,none⟩) (r.length+1) c) I.cx
 obtain⟨ah,ai,he,hF,-⟩:=I.fr
 injection he with e1 e2
 subst e1;subst e2
 have K:FrM B m (w.setCell ⟨bx,0,none⟩ (.slice (some ⟨g,0,none⟩) (r.length+1) c)) q (r.length+1) E f:=hF.same Z (by decide) (by show 5+2*(r.length+1)≠1;omega) (by show 6+2*(r.length+1)≠1;omega) (AG q)
 have J:m E=5+2*(r.length+1):=K.2.1
 have ab:E≠bx:=λe=>by have:=I.cx;rw[<-e,J]at this;omega
 have U:(w.setCell ⟨bx,0,none⟩ (.slice (some ⟨g,0,none⟩) (r.length+1) c)).heap[E]? =some (.cells (frCells f vn vk o) 100 (0,0)):=(Below.heap_setCell _ _ _ _ ab).trans hh
 clear Z hF hh
 obtain⟨W,hW⟩:∃W,w.setCell ⟨bx,0,none⟩ (.slice (some ⟨g,0,none⟩) (r.length+1) c)=W:=⟨_,rfl⟩
 rw[hW]at hp K U ⊢
 clear hW I
 obtain⟨ag,-,ad,M,N,O,V,ae,af,hK⟩:=K
 have e1:frCells f vn vk o=frCells f M N O:=by
  have:=U.symm.trans V
  injection this with this
  injection this
 have ev:o=O:=congrArg (λc:Array Value=>c[13]!) e1
 subst ev
 have G:∀g,o.ownBlock=some g->m g=6+2*(r.length+1):=by
  obtain⟨cs,⟨-,h2⟩,-⟩:=hK
  exact h2
 have hS:gA (λc=>c≠5+2*(r.length+1)/\c≠6+2*(r.length+1)) m (lF m o) W (W.setCell ⟨E,10,none⟩ o):=
  ⟨by simp[World.setCell],λb _ Y=>⟨iE G Y.2,Below.heap_setCell _ _ _ _ (λe=>Y.1 (by rw[e];exact J))⟩⟩
 have c0:(λc=>c≠5+2*(r.length+1)/\c≠6+2*(r.length+1)) 0:=⟨by omega,by omega⟩
 have aa:RdG B q bx ⟨f2,r,defs,many,calls⟩ (lF m o) bs (.slice (some ⟨g,0,none⟩) (r.length+1) c) dv cv (W.setCell ⟨E,10,none⟩ o):=
  hp.same' hS (λc Y=>by replace Y:c<=6+2*r.length:=Y;exact⟨by omega,by omega⟩) (AG q)
 have ac:d8 (Ok (lF m o) (W.setCell ⟨E,10,none⟩ o)) (W.setCell ⟨E,10,none⟩ o) o f.kids:=
  iA hK hS c0 (λg I=>Below.heap_setCell _ _ _ _ (λe=>by have e2:g=E:=e;have:=G g I;rw[e2,J]at this;omega))
 have A:(W.setCell ⟨E,10,none⟩ o).heap[E]? =some (.cells ((frCells f M N o).setIfInBounds 10 o) 100 (0,0)):=d7 (j:=10) V o
 obtain⟨ka,kc,R⟩:=hK.slice
 refine⟨lF m o,ka,kc,aa,?_,?_,?_,?_⟩
 · rw[<-R];exact ac
 · rw[dW A];rfl
 · rw[dW A];simp[frCells,hk]
 · rw[dW A,←R];rfl
theorem RdG.defd {B q bx:Nat}{s:St}{A:Nat->Nat}{bs:List Nat}{U R Z:Value}{w w2:World}(m:RdG B q bx s A bs U R Z w){cs:List Value}{d:Df}{v:Value}
 (r:∀g,R.ownBlock=some g->A g=3) (J:fw (Ok A w) w s.defs cs) (hp:d8 (Ok A w) w v d.kids)
 (W:w.heap.size<=w2.heap.size) (N:∀b,b<w.heap.size->some b≠R.ownBlock->w2.heap[b]? =w.heap[b]?) {E o:Nat}
 (G:w2.ownsRow B 70 3 (.slice (some ⟨E,0,none⟩) (s.defs.length+1) o) (s.defs.length+1) (cs++[.string d.name,.int .i64 d.pos,v])) (O:R.ownBlock=some E\/w.heap.size<=E):
 RdM B (q+1) bx {s with defs:=s.defs++[d]} (w2.setCell ⟨bx,2,none⟩ (.slice (some ⟨E,0,none⟩) (s.defs.length+1) o)):=by
 have M:=dX m.hx
 have I:=jM (j:=2) (u:=.slice (some ⟨E,0,none⟩) (s.defs.length+1) o) m.cx (by decide:(1:Nat)≠3) r W N O
 have V:w2.heap[bx]? =some (.cells (ij U R s.many Z) 103 (0,0)):=(N bx M (λe=>by have:=r bx e.symm;rw[m.cx]at this;cases this)).trans m.hx
 have K:E≠bx:=by
  rintro rfl
  rcases O with h1 | h1
  · have:=r _ h1;rw[m.cx]at this;cases this
  · omega
 have c0:(λk=>k≠1/\k≠3) 0:=⟨by decide,by decide⟩
 exact⟨dye A E 3,bs,U,.slice (some ⟨E,0,none⟩) (s.defs.length+1) o,Z,{
  bb:=m.bb
  cx:=(jb (Ne.symm K)).trans m.cx
  hx:=d7 (j:=2) V _
  st:=m.st.same I ⟨by decide,by decide⟩
  fr:=m.fr.same I c0 (Nat.le_succ q) _ _ (λi _=>⟨⟨by omega,by omega⟩,⟨by omega,by omega⟩⟩)
  df:=⟨cs++[.string d.name,.int .i64 d.pos,v],⟨by
   rw[List.length_append,List.length_singleton]
   exact mG G _ _ _ (λe=>K (by simpa[Value.ownBlock]using e)),λg Y=>by
   have:E=g:=by simpa[Value.ownBlock]using Y
   rw[<-this];exact lc _ _⟩,fw.app _ _ _ _ (fw.same I c0 _ _ J) ⟨v,[],rfl,I.parts c0 hp,rfl⟩⟩
  cl:=m.cl.same I ⟨by decide,by decide⟩
  l1:=m.l1
  l2:=m.l2
  l3:=by rw[List.length_append,List.length_singleton];have:=m.l3;omega
  l4:=Nat.le_succ_of_le m.l4
  hB:=Nat.le_trans m.hB I.1
  ol:=λb hb=>(jb (by have:=sB G;omega)).trans (m.ol b hb)}⟩
theorem xy (B q bx at_:Nat)(hq:q<=16777216)(aP:at_<=16777216)(f f2:Fr)(r:List Fr)(defs:List Df)(many:Nat)(calls:List (By×Nat))(N:f.kind=6)(wv:Value)(w:World)(h:RdM B q bx ⟨f,f2::r,defs,many,calls⟩ w):
 Calls Tryz.prog 86 #[.pointer (some ⟨bx,0,none⟩),wv,.int .i64 (at_:Nat)] w (ew B (q+1) bx w (St.endA at_ ⟨f,f2::r,defs,many,calls⟩)):=by
 obtain⟨aS,bs,sv,dv,cv,Y⟩:=h
 obtain⟨c0,-,-,-,-,fz⟩:=Y.cells
 obtain⟨fb,aT,g,c,rfl,hl,rfl,Z,ax,aO,hF,-,af⟩:=Y.top
 obtain⟨ae,ag,ar,vn,vk,kv,K,av,aw,hK⟩:=hF
 obtain⟨ka,kc,rfl⟩:=hK.slice
 have aq:r.length+1<=64:=Y.l2
 replace c0:w.cell? ⟨bx,0,none⟩=some (.slice (some ⟨g,0,none⟩) (r.length+1+1) c):=c0
 have TP:=AF (gF bx g (r.length+1) fb c w aq Z ax c0 af)
 replace Z:r.length+1+1<=c:=Z
 have aa:=AF (rx Y N K)
 have aE:w.cell? ⟨fb,10,none⟩=some (.slice none 0 0):=by rw[dW K];rfl
 have aD:w.cell? ⟨fb,11,none⟩=some (.bool true):=by rw[dW K];show some (Value.bool (f.kind==6))=_;rw[N];rfl
 have aC:w.cell? ⟨fb,13,none⟩=some (.slice ka f.kids.len kc):=by rw[dW K];rfl
 have aB:=dY K
 have aI:bx≠fb:=λe=>by have:=Y.cx;rw[e,ag]at this;omega
 have aG:Hid (B<=bx):=Y.bb
 have aF:Hid (B<=fb):=ae
 have t1:((r.length:Int)+1+1==1)=false:=by rw[beq_eq_false_iff_ne];omega
 have wn:IntKind.i64.wrap ((r.length:Int)+1+1 - 1)=(r.length:Int)+1:=by rw[IntWalk.i64_in _ (by omega)];omega
 have HE:Hid (St.endA at_ ⟨f,f2::r,defs,many,calls⟩=.ok ⟨f2,r,defs++[⟨mkB f.name,f.pos,f.kids⟩],many,calls⟩):=if_pos N
 clear Y K af ar hK ag ae N av aw
 go_enter Tryz.func86,Tryz.ntmps86
 go_wp2_with fail
 refine TP.out.mono ?_
 rintro e w1 ⟨rfl,rfl⟩
 go_wp2_with fail
 go_region
 all_goals
  go_wp2_with fail
  generalize hW:World.setCell (World.setCell _ _ _) _ _=E
  rw[hW]at aa
  have aH:Below B w E:=by rw[<-hW];exact((AH B w).setCell aG.out _).setCell aF.out _
  clear hW TP aE aD aC aB c0 fz
  obtain⟨aL,J,I,A,au,p8,p9,aM⟩:=aa.out
  clear aa
  obtain⟨c0,-,c2,-,-,fz⟩:=A.cells
  have ah:=dX A.hx
  have aK:=ej p8
  obtain⟨cs,⟨G,O⟩,ac⟩:=A.df
  replace G:E.ownsRow B 70 3 dv defs.length cs:=G
  have U:∀o,(E.alloc o).ownsRow B 70 3 dv defs.length cs:=λo=>World.ownsRow.alloc G o
  have M:∀j u,([.string (mkB f.name),.int .i64 (f.pos:Nat),.slice J f.kids.len I]:List Value)[j]? =some u->(E.alloc (.cells #[.string (mkB f.name),.int .i64 (f.pos:Nat),.slice J f.kids.len I] 70)).cell? ((⟨E.heap.size,0,none⟩:Addr).add j)=some u:=by
   intro j u hj
   have hb:=heap_alloc_new E (.cells #[.string (mkB f.name),.int .i64 (f.pos:Nat),.slice J f.kids.len I] 70)
   have ak:(⟨E.heap.size,0,none⟩:Addr).add j=⟨E.heap.size,j,none⟩:=by unfold Addr.add;split <;> simp_all
   rw[ak,dW hb]
   simpa using hj
  have ad:∀u∈([.string (mkB f.name),.int .i64 (f.pos:Nat),.slice J f.kids.len I]:List Value),u.oneCell'=true:=by
   intro u hu
   simp only[List.mem_cons,List.not_mem_nil,or_false]at hu
   rcases hu with rfl | rfl | rfl <;> rfl
  obtain⟨i0,hi,ao,an,am⟩:=info_parts xp
  have aQ:B<=E.heap.size+1:=by have:=A.hB;omega
  have ap:some bx≠dv.ownBlock:=λe=>by have:=O bx e.symm;rw[A.cx]at this;cases this
  have aN:defs.length<=q:=A.l3
  have ay:defs.length+1<=maxLen:=by unfold maxLen;omega
  have az:(defs.length+1)*48<=140737488355328:=by omega
  have aR:(1:Nat)*3=3:=rfl
  go_region_law (refine step_append_lies _ (by rfl) _ _ _ (by rfl) B 70 i0 _ 3 48 Tryz.underlying23 hi ao an am (by rfl) (by decide) dv defs.length cs (by rfl) (by exact U _) ⟨E.heap.size,0,none⟩ 1 1 [.string (mkB f.name),.int .i64 (f.pos:Nat),.slice J f.kids.len I] (by rfl) (by rfl) (by exact M) ad (by decide) ay az (by simp;omega) (E.heap.size+1) (by simp) ?_;intro g2 al w2 V m aj aJ;have R:=(m.block bx (by simp;omega) ap).trans ((Below.heap_alloc _ _ _ ah).trans A.hx);have s2:w2.cell? ⟨bx,2,none⟩=some dv:=(by rw[dW R];rfl);have z2:=dY R 2)
  all_goals
   have W:(E.alloc (.cells #[.string (mkB f.name),.int .i64 (f.pos:Nat),.slice J f.kids.len I] 70)).grownBy w2 dv.ownBlock:=⟨m.os,m.tape,m.output,m.size,m.block⟩
   clear R s2 z2 m
   have ab:E.heap.size<=w2.heap.size:=by have:=W.size;simp at this;omega
   have ai:∀b,b<E.heap.size->some b≠dv.ownBlock->w2.heap[b]? =E.heap[b]? :=λb hb hn=>(W.block b (by simp;omega) hn).trans (Below.heap_alloc _ _ _ hb)
   have hF:=A.defd (d:=⟨mkB f.name,f.pos,f.kids⟩) O ac au ab ai V (aj.imp id (λe=>by omega))
   have aA:Below B w (w2.setCell ⟨bx,2,none⟩ (.slice (some ⟨g2,0,none⟩) (defs.length+1) al)):=((aH.alloc A.hB _).grown W (by simp;omega) (λk hk=>(World.ownsRow.lt G k hk).1)).setCell A.bb _
   go_wp2_with fail
   go_end0
   rw[HE.out]
   exact⟨aA,rfl,hF⟩
end Go.Proofs.YtepcpgdfbaklfaaGreatDoor
