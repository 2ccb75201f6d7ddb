/- The document's answer's run in memory; lacunaref20's m.part out of m.parts. The condition: the names of the templates differ, sizes, at most 256 calls within one another. -/
import Derived.Test.YtepcpgdfbaklfaaGreatDoorQcIc
import Derived.Test.YtepcpgdfbaklfaaGreatDoorQcI8
import Derived.Test.YtepcpgdfbaklfaaGreatDoorQcE0
import Derived.Test.YtepcpgdfbaklfaaGreatDoorQcLibv
import Derived.IntWalk
import Derived.BigQuiet
import Derived.StillTailTactics
set_option maxRecDepth 100000
set_option maxHeartbeats 80000000
set_option linter.unusedSimpArgs false
set_option linter.unusedVariables false
namespace Go.Proofs.YtepcpgdfbaklfaaGreatDoor
open Go.RowKit Go.Shelf Ev
attribute [local go_sem ↓] Go.wp_at_zero Go.wp_at_succ
theorem fu.zero (ok:Nat->Prop)(w:World):fu ok w fS none 0 none 0:=⟨⟨none,0,rfl,by decide,by decide,λm=>absurd rfl m⟩,⟨none,0,rfl,by decide,by decide,λm=>absurd rfl m⟩⟩
theorem qH.shp {M:Nat}{w:World}{v:Value}{l:List Pc}(h:qH M w v l):∃a m c,v=.slice a m c:=by
 obtain⟨cs,o,-⟩:=h
 exact wX o
theorem qH.keep {M:Nat}{w w':World}{v:Value}{l:List Pc}(h:qH M w v l)(r:∀b,b≠M->b<w.heap.size->w'.heap[b]? =w.heap[b]?)(E:M<w.heap.size):qH M w' v l:=by
 obtain⟨cs,m,A⟩:=h
 exact⟨cs,fA m (λg o=>r g (by have:=(fg m g o).1;omega) (fg m g o).2),A.kept (λb h=>r b (by have:b<M:=h;omega) (by have:b<M:=h;omega))⟩
def ApR (M:Nat)(o r m:Value)(f C p:Int)(l:List Pc)(w:World)(v:Value)(w':World):Prop:=qH M w' v l/\Mb M o r m f C 0 p w'/\Kt M w w'/\w.heap.size<=w'.heap.size
theorem tH {M:Nat}{vm vd I:Value}{f C p:Int}{l:List Pc}{x:Pc}{w1 W:World}{a1 a2:Option Addr}{c1 c2:Nat}(ho:qH M w1 I l)(hm:Mb M vm vd I f C 0 p w1)(hx:fu (·<M) w1 x.val a1 c1 a2 c2)(hl:l.length<=1000000)(hW:Below w1.heap.size w1 W)(hM:M<w1.heap.size)(ty:TypeId):
 ∃R w',(Builtin.append_ #[36,36] ty #[I,.slice (some ⟨W.heap.size,0,none⟩) 1 1]).run Tryz.prog (W.alloc (.cells (pcL x a1 c1 a2 c2).toArray 44))=.ok R w'/\ApR M vm vd I f C p (l++[x]) w1 R w':=by
 obtain⟨cs,O,h2⟩:=ho
 obtain⟨i0,hi,Y,V,U⟩:=info_parts nX
 have hs:=hW.size
 have r:Below w1.heap.size w1 (W.alloc (.cells (pcL x a1 c1 a2 c2).toArray 44)):=hW.alloc hs _
 have aa:=fA O (w':=W.alloc (.cells (pcL x a1 c1 a2 c2).toArray 44)) (λg hg=>r.block g (fg O g hg).2)
 obtain⟨R,w',r1,r2,J⟩:=o8 36 44 i0 _ 10 120 Tryz.underlying36 hi Y V U (by rfl) (by decide) _ ty (M+1) I l.length cs aa (some ⟨W.heap.size,0,none⟩) 1 1 (pcL x a1 c1 a2 c2) rfl
  (λj u hj=>⟨_,_,rfl,by rw[dW (heap_alloc_new W _)];simpa using hj⟩) (λu hu=>by simp only[pcL,List.mem_cons,List.not_mem_nil,or_false]at hu;rcases hu with rfl | rfl | rfl | rfl | rfl | rfl | rfl | rfl | rfl | rfl <;> rfl) (by unfold maxLen;omega) (by omega) (by have:=r.size;omega)
 have E:∀b,I.ownBlock=some b->M+1<=b/\b<w1.heap.size/\∃A,w1.heap[b]? =some (.cells A 44 (0,0)):=λb m=>by
  refine⟨(fg O b m).1,(fg O b m).2,?_⟩
  rcases O.2 with⟨rfl,-⟩ | ⟨g',cap,A,rfl,-,N,-⟩
  · cases m
  · cases m;exact⟨A,N⟩
 have K:∀b,b<w1.heap.size->I.ownBlock≠some b->w'.heap[b]? =w1.heap[b]? :=λb m Z=>(J.block b (AI m r.size) (λe=>Z e.symm)).trans (r.block b m)
 have o:∀b,b<=M->w'.heap[b]? =w1.heap[b]? :=λb m=>K b (by omega) (λe=>by have:=(E b e).1;omega)
 refine⟨R,w',r1,⟨cs++pcL x a1 c1 a2 c2,by rw[List.length_append];exact r2,fQ.snoc (hx.kept (λb m=>o b (Nat.le_of_lt m))) _ _ (h2.kept (λb m=>o b (Nat.le_of_lt m)))⟩,(o M (AG _)).trans hm,⟨⟨J.os.trans r.os,J.tape.trans r.tape,J.output.trans r.output,?_,λb m=>o b (Nat.le_of_lt m)⟩,λb cs T fr m N hT=> ?_⟩,Nat.le_trans r.size J.size⟩
 · have:=Nat.le_trans r.size J.size
   first | exact this | omega
 · refine(K b (dX N) (λe=> ?_)).trans N
   obtain⟨-,-,A,G⟩:=E b e
   rw[N]at G
   cases G
   exact hT rfl
def RsD (M:Nat)(a:Option Addr)(w:World)(r:List Df)(k:Nat):Prop:=r≠[]->∃b o,a=some ⟨b,o,none⟩/\b<M/\hZ (·<M) w r b (o+k*3)
theorem ApR.ms {M:Nat}{m o r v:Value}{g C:Nat}{l:List Pc}{w w':World}(h:ApR M m o r (g:Nat) (C:Nat) 0 l w v w'):Kt M w (w'.setCell ⟨M,2,none⟩ v)/\MsS M m o C ⟨l,g,none⟩ (w'.setCell ⟨M,2,none⟩ v):=by
 obtain⟨G,E,A,I⟩:=h
 exact⟨A.trans (Kt.offM (m8.set _ _ _ _)),MsS.offM G (m8.set _ _ _ _) rfl (d7 (j:=2) E v)⟩
theorem qa (M:Nat)(vm:Value)(ad:Option Addr)(V:Nat)(A:List Df)(dU:A.length<=16777216)(cD:twice (A.map λd=>bl d.name)=false)(cE:∀d∈A,Sk d.kids/\d.kids.cnt<=16777216)(C:Nat)(hC:C<=256)(n:Nat)
 (hp:∀m,n=m+1->PsS M vm (.slice ad A.length V) (λw=>fU (·<M) w (.slice ad A.length V) A) (ff A) C m):PtS M vm (.slice ad A.length V) (λw=>fU (·<M) w (.slice ad A.length V) A) (ff A) C n:=by
 intro h kd el dot root deep l f w a1 a2 a3 a4 an ak ae c1 c2 c3 c4 cn ck ce dT dR bH ci ch cm cH cI hM bg cv be aw cb av bd cw cC
 have bw:Hid (Below w.heap.size w (((w.alloc (.cells (eo h (.slice an h.names.length cn) (.slice ak kd.len ck) (.slice ae el.len ce)) 56)).alloc (.cells (d9 dot.h (.slice a1 dot.h.keys.length c1) (.slice a2 dot.items.len c2)) 31)).alloc (.cells (d9 root.h (.slice a3 root.h.keys.length c3) (.slice a4 root.items.len c4)) 31))):=(((AH _ w).alloc (AG _) _).alloc (by simp) _).alloc (by simp;omega) _
 have HT:Hid (∀W0,((w.alloc (.cells (eo h (.slice an h.names.length cn) (.slice ak kd.len ck) (.slice ae el.len ce)) 56)).alloc (.cells (d9 dot.h (.slice a1 dot.h.keys.length c1) (.slice a2 dot.items.len c2)) 31)).alloc (.cells (d9 root.h (.slice a3 root.h.keys.length c3) (.slice a4 root.items.len c4)) 31)=W0->W0.heap[w.heap.size]? =some (.cells (eo h (.slice an h.names.length cn) (.slice ak kd.len ck) (.slice ae el.len ce)) 56 (0,0))/\W0.heap[w.heap.size+1]? =some (.cells (d9 dot.h (.slice a1 dot.h.keys.length c1) (.slice a2 dot.items.len c2)) 31 (0,0))/\W0.heap[w.heap.size+2]? =some (.cells (d9 root.h (.slice a3 root.h.keys.length c3) (.slice a4 root.items.len c4)) 31 (0,0))/\W0.heap.size=w.heap.size+3):=by
  rintro W0 rfl
  generalize Obj.cells (eo h (.slice an h.names.length cn) (.slice ak kd.len ck) (.slice ae el.len ce)) 56 (0,0)=X
  generalize Obj.cells (d9 dot.h (.slice a1 dot.h.keys.length c1) (.slice a2 dot.items.len c2)) 31 (0,0)=Y
  generalize Obj.cells (d9 root.h (.slice a3 root.h.keys.length c3) (.slice a4 root.items.len c4)) 31 (0,0)=Z
  have s1:(w.alloc X).heap.size=w.heap.size+1:=by simp
  have s2:((w.alloc X).alloc Y).heap.size=w.heap.size+2:=by simp
  refine⟨?_,?_,?_,by simp⟩
  · rw[Below.heap_alloc _ _ _ (by omega),Below.heap_alloc _ _ _ (by omega)]
    exact heap_alloc_new w X
  · rw[Below.heap_alloc _ _ _ (by omega)]
    have:=heap_alloc_new (w.alloc X) Y;rwa[s1]at this
  · have:=heap_alloc_new ((w.alloc X).alloc Y) Z;rwa[s2]at this
 unfold eo d9 at bw HT
 have bD:Hid (∀W,Below w.heap.size w W->MsS M vm (.slice ad A.length V) C ⟨l,f,none⟩ W):=λW hW=>bg.below hW hM
 have dJ:=AF cE
 have dI:=AF cD
 have cM:=AF ci
 have cL:=AF ch
 have cN:=AF cm
 have HP:=AF hp
 have bo:=AF be
 have aX:=AF aw
 have bM:=AF cb
 have bk:=AF av
 have dH:=AF bd
 have cZ:=AF cw
 have c8:=AF cC
 have cY:=AF cv
 clear cv ci ch cm hp be aw cb av bd cw cC bg cE cD
 go_enter Tryz.func62,Tryz.ntmps62
 go_upto_region 1 with(fail)
 try simp only[Nat.add_assoc,Nat.reduceAdd]
 generalize bI:World.alloc (World.alloc (World.alloc w _) _) _=W0 at*
 obtain⟨bG,hd0,co,dO⟩:=HT.out W0 rfl
 clear bI HT
 obtain⟨vo,ca,aa⟩:=bD.out W0 bw.out
 have aa:Mb M vm (.slice ad A.length V) vo (f:Nat) (C:Nat) 0 0 W0:=aa
 have bL:=AF ca
 have BC:=AF (ly M vm (.slice ad A.length V) vo f (by omega) (C:Nat) 0 h.pos W0 aa)
 have bv:Hid (Kt M w W0):=Kt.below bw.out (Nat.le_of_lt hM)
 have cT:=AF bG
 have dd:=AF hd0
 have cQ:=AF co
 obtain⟨p0,p1,p2,p3,p4,p5,p6,p7⟩:=ja (P:=w.heap.size) (h:=h) bG
 clear bG hd0 co aa ca bD
 go_wp2_with fail
 refine BC.out.mono ?_
 rintro e w1 ⟨rfl,E,hz,hs⟩
 have K:=AF E
 have a8:Hid (Kt M w w1):=bv.out.trans (Kt.offM K.out)
 have dN:=K.out.2
 clear E BC p0 p1 p2 p3 p4 p5 p6 p7
 cases f with
 | zero=>
   have aB:=hz rfl
   obtain⟨-,-,-,-,-,m5,-,-⟩:=aB.cs
   have a6:=AF aB
   clear hz hs aB
   go_wp2_with fail
   try first | go_end0 | refine bodyPost_ret (results_none rfl _ _ _) rfl ?_
   refine⟨rfl,a8.out,?_⟩
   rw[eR,pC]
   exact MsS.offM bL.out K.out (List.append_nil _) a6.out
 | succ g=>
 obtain⟨m,rfl⟩:∃m,n=m+1:=⟨n - 1,by omega⟩
 have aB:=hs g rfl
 have a6:=AF aB
 have bY:Hid (qH M w1 vo l):=bL.out.keep (λb O _=>K.out.1.block b O) (by omega)
 have bW:=AF ((K.out.1.block _ (by omega)).trans cT.out)
 have b4:=AF ((K.out.1.block _ (by omega)).trans dd.out)
 have bS:=AF ((K.out.1.block _ (by omega)).trans cQ.out)
 have dG:=AF (HP.out m rfl)
 obtain⟨m0,m1,m2,m3,m4,m5,m6,mz⟩:=aB.cs
 obtain⟨p0,p1,p2,p3,p4,p5,p6,p7⟩:=ja (P:=w.heap.size) (h:=h) bW.out
 clear hz hs aB HP K bL cT dd cQ bw bv
 have aU:M<w1.heap.size:=by omega
 have b6:=mz 2
 by_cases k1:h.kind=1
 · have I:Hid (evF (ff A) C (m+1) dot root deep h kd el (g+1)=⟨[⟨h.pos,false,fS,h.text⟩],g,none⟩):=ti _ _ _ _ _ _ _ _ _ _ k1
   rw[k1]at p0
   go_upto_region 4 with(fail)
   have HZ:Hid (w1.drew.heap.size=w.heap.size+3):=by show w1.heap.size=_;omega
   have HD:Hid (Below w1.heap.size w1 w1.drew):=⟨rfl,rfl,rfl,AG _,λ_ _=>rfl⟩
   have HR:Hid (∀W,Below w1.heap.size w1 W->W.heap.size=w.heap.size+3->∀ty,∃v' w',(Builtin.append_ #[36,36] ty #[vo,.slice (some ⟨w.heap.size+3,0,none⟩) 1 1]).run Tryz.prog (W.alloc (.cells #[.int .i64 h.pos,.bool false,.string h.text,.int .u8 0,.bool false,.int .i64 0,.int .u64 0,.string ⟨#[]⟩,.slice none 0 0,.slice none 0 0] 44))=.ok v' w'/\ApR M vm (.slice ad A.length V) vo (g:Nat) (C:Nat) 0 (l++[⟨h.pos,false,fS,h.text⟩]) w1 v' w'):=λW hW hz=>by
    rw[<-hz]
    exact tH (x:=⟨h.pos,false,fS,h.text⟩) (a1:=none) (a2:=none) (c1:=0) (c2:=0) bY.out a6.out (fu.zero _ _) (by omega) hW aU
   have dj:(w1.alloc (.cells #[.int .i64 h.pos,.bool false,.string h.text,.int .u8 0,.bool false,.int .i64 0,.int .u64 0,.string ⟨#[]⟩,.slice none 0 0,.slice none 0 0] 44)).drew.cell? ⟨M,2,none⟩=some vo:=(((AH w1.heap.size w1).alloc (AG _) (.cells #[.int .i64 h.pos,.bool false,.string h.text,.int .u8 0,.bool false,.int .i64 0,.int .u64 0,.string ⟨#[]⟩,.slice none 0 0,.slice none 0 0] 44)).cell (p:=⟨M,2,none⟩) aU).trans m2
   go_region_law (refine pV (by rfl) _ _ 36 (by rfl) vo (.slice (some ⟨w.heap.size+3,0,none⟩) 1 1) (by rfl) (by rfl) _ (HR.out _ HD.out HZ.out) ?_;rintro v5 N ax;obtain⟨a5,n5,c5,rfl⟩:=ax.1.shp;have am:=AF ax;clear ax;have dh:N.frozen? ⟨M,2,none⟩=false:=am.out.2.1.cs.fz 2;have di:=am.out.2.1.cs.c2)
   all_goals
    go_wp2_with fail
    try first | go_end0 | refine bodyPost_ret (results_none rfl _ _ _) rfl ?_
    rw[eR,I.out]
    exact⟨rfl,a8.out.trans am.out.ms.1,am.out.ms.2⟩
 have j1:((h.kind:Int)==1)=false:=beq_eq_false_iff_ne.2 (by omega)
 have bh:∀b,b<M->w1.heap[b]? =w.heap[b]? :=a8.out.1.block
 have b5:=rp dot root h.root h.names bo.out aX.out (by have:=cM.out.1.2.2.2.1;omega) (·<M) _ _ _ w1 (bM.out.kept bh).val (bk.out.kept bh).val (dH.out.kept bh)
 obtain⟨G,hG⟩:∃G,eU h.names (if h.root then root else dot)=G:=⟨_,rfl⟩
 rw[hG]at b5
 have HG:=AF hG
 have GC:=AF b5
 obtain⟨x0,x1,x2,x3,x4,x5,x6⟩:=fR (h:=dot.h) b4.out
 obtain⟨y0,y1,y2,y3,y4,y5,y6⟩:=fR (h:=root.h) bS.out
 clear bh b6 b5 hG
 go_upto_region 5 with(fail)
 go_wp2_with fail
 refine GC.out.mono ?_
 rintro e w2 ⟨b1,d1,b2,d2,rfl,bz,aS⟩
 have aH:Hid (Below w1.heap.size w1 (w2.alloc (.cells #[.int .u8 ((rgV G).h.kind:Nat),.bool (rgV G).h.b,.int .i64 (rgV G).h.n,.int .u64 ((rgV G).h.bits:Nat),.string (rgV G).h.text,.slice b1 (rgV G).h.keys.length d1,.slice b2 (rgV G).items.len d2] 31))):=aS.alloc aS.size _
 have bK:Hid ((w2.alloc (.cells #[.int .u8 ((rgV G).h.kind:Nat),.bool (rgV G).h.b,.int .i64 (rgV G).h.n,.int .u64 ((rgV G).h.bits:Nat),.string (rgV G).h.text,.slice b1 (rgV G).h.keys.length d1,.slice b2 (rgV G).items.len d2] 31)).heap[w2.heap.size]? =some (.cells #[.int .u8 ((rgV G).h.kind:Nat),.bool (rgV G).h.b,.int .i64 (rgV G).h.n,.int .u64 ((rgV G).h.bits:Nat),.string (rgV G).h.text,.slice b1 (rgV G).h.keys.length d1,.slice b2 (rgV G).items.len d2] 31 (0,0))):=heap_alloc_new w2 _
 have bN:Hid (fu (·<M) (w2.alloc (.cells #[.int .u8 ((rgV G).h.kind:Nat),.bool (rgV G).h.b,.int .i64 (rgV G).h.n,.int .u64 ((rgV G).h.bits:Nat),.string (rgV G).h.text,.slice b1 (rgV G).h.keys.length d1,.slice b2 (rgV G).items.len d2] 31)) (rgV G) b1 d1 b2 d2):=(bz.mono λb O=>O.1).kept λb O=>Below.heap_alloc _ _ _ (by have:b<M:=O;have:=aS.size;omega)
 have hX:=aS.size
 have cJ:Hid (w2.heap.size<(w2.alloc (.cells #[.int .u8 ((rgV G).h.kind:Nat),.bool (rgV G).h.b,.int .i64 (rgV G).h.n,.int .u64 ((rgV G).h.bits:Nat),.string (rgV G).h.text,.slice b1 (rgV G).h.keys.length d1,.slice b2 (rgV G).items.len d2] 31)).heap.size):=by unfold Hid;simp
 clear GC bz aS x0 x1 x2 x3 x4 x5 x6 y0 y1 y2 y3 y4 y5 y6 p0 p1 p2 p3 p4 p5 p6 p7 m0 m1 m2 m3 m4 m5 m6
 go_upto_region 6 with(fail)
 generalize bI:World.alloc w2 _=w3 at*
 generalize dz:w2.heap.size=X at*
 clear bI dz
 have dV:X<w3.heap.size:=cJ.out
 clear cJ
 have b3:Hid (Kt M w w3):=a8.out.trans (Kt.below aH.out (Nat.le_of_lt aU))
 have cX:Hid (Mb M vm (.slice ad A.length V) vo (g:Nat) (C:Nat) (0:Nat) 0 w3):=(aH.out.block _ aU).trans a6.out
 have bX:Hid (qH M w3 vo l):=bY.out.keep (λb _ O=>aH.out.block b O) aU
 have bU:=AF ((aH.out.block _ (by omega)).trans bW.out)
 have dc:=AF ((aH.out.block _ (by omega)).trans b4.out)
 have cP:=AF ((aH.out.block _ (by omega)).trans bS.out)
 obtain⟨p0,p1,p2,p3,p4,p5,p6,p7⟩:=ja (P:=w.heap.size) (h:=h) bU.out
 have FC:=AF (iD M vm (.slice ad A.length V) vo (g:Nat) (C:Nat) 0 (rgE G) 0 h.pos w3 cX.out)
 clear aH bW b4 bS a6 bY a8
 cases G with
 | error y=>
   have hy:y≠0:=by rcases kD _ _ _ HG.out with h | h <;> omega
   have dP:((y:Int)==0)=false:=beq_eq_false_iff_ne.2 (by omega)
   have I:Hid (evF (ff A) C (m+1) dot root deep h kd el (g+1)=⟨[],g,some (y,h.pos)⟩):=by
    unfold Hid
    simp only[evF,iu,HG.out,k1,if_false]
   dsimp only[rgE,rgV]at FC ⊢
   go_wp2_with fail
   refine FC.out.mono ?_
   rintro e J ⟨rfl,E,ap⟩
   simp only[hy,ne_eq,not_false_eq_true,and_self,if_true]at ap
   have K:=AF E
   have aE:=AF ap
   clear E ap FC p0 p1 p2 p3 p4 p5 p6 p7
   go_wp2_with fail
   try first | go_end0 | refine bodyPost_ret (results_none rfl _ _ _) rfl ?_
   rw[eR,I.out]
   exact⟨rfl,b3.out.trans (Kt.offM K.out),MsS.offM bX.out K.out (List.append_nil _) aE.out⟩
 | ok x=>
 have aL:Hid (Va.sm x):=pA _ _ _ HG.out (by split;exact aX.out;exact bo.out)
 dsimp only[rgE,rgV]at FC bK bN ⊢
 go_wp2_with fail
 refine FC.out.mono ?_
 rintro e J ⟨rfl,E,ap⟩
 have ap:Mb M vm (.slice ad A.length V) vo (g:Nat) (C:Nat) 0 0 J:=ap
 have U:Hid (Kt M w J):=b3.out.trans (Kt.offM E)
 have bu:Hid (qH M J vo l):=bX.out.keep (λb O _=>E.1.block b O) (by omega)
 have dl:=E.2
 have bj:=AF ((E.1.block X (by omega)).trans bK.out)
 have bt:=AF ((E.1.block _ (by omega)).trans bU.out)
 have db:=AF ((E.1.block _ (by omega)).trans dc.out)
 have bR:=AF ((E.1.block _ (by omega)).trans cP.out)
 have bm:Hid (fu (·<M) J x b1 d1 b2 d2):=bN.out.kept λb O=>E.1.block b (by have:b<M:=O;omega)
 have aE:=AF ap
 clear E ap FC bK bU dc cP bN bX cX b3 p0 p1 p2 p3 p4 p5 p6 p7
 obtain⟨p0,p1,p2,p3,p4,p5,p6,p7⟩:=ja (P:=w.heap.size) (h:=h) bt.out
 obtain⟨v0,v1,v2,v3,v4,v5,v6⟩:=fR (h:=x.h) bj.out
 obtain⟨m0,m1,m2,m3,m4,m5,m6,mz⟩:=aE.out.cs
 have aT:M<J.heap.size:=by omega
 have bs:Hid (∀(W:World) (q:Pt) (d r:Va) (dp:Nat) (st:Ev.Rs) (a e1 e2 e3 e4:Option Addr) (c f1 f2 f3 f4:Nat),Kt M w W->M<W.heap.size->StO m st->dp<=C->Sk q->q.cnt<=16777216->MsS M vm (.slice ad A.length V) C st W->Va.sm d->Va.sm r->fu (·<M) W d e1 f1 e2 f2->fu (·<M) W r e3 f3 e4 f4->d8 (·<M) w (.slice a q.len c) q->
  Calls Tryz.prog 36 #[.pointer (some ⟨M,0,none⟩),.slice a q.len c,.agg #[.int .u8 (d.h.kind:Nat),.bool d.h.b,.int .i64 d.h.n,.int .u64 (d.h.bits:Nat),.string d.h.text,.slice e1 d.h.keys.length f1,.slice e2 d.items.len f2],.agg #[.int .u8 (r.h.kind:Nat),.bool r.h.b,.int .i64 r.h.n,.int .u64 (r.h.bits:Nat),.string r.h.text,.slice e3 r.h.keys.length f3,.slice e4 r.items.len f4],.int .i64 (dp:Nat)] W
   λe w'=>e=.returned (.tuple #[])/\Kt M W w'/\MsS M vm (.slice ad A.length V) C (st.seq (em (evF (ff A) C m d r dp) q)) w'):=
  λW q d r dp st a e1 e2 e3 e4 c f1 f2 f3 f4 hk hm bd dx hq hc bg be aw hd hr hp=>dG.out q d r dp st W a e1 e2 e3 e4 c f1 f2 f3 f4 bd dx hq hc hm bg (cY.out.kept hk.1.block) be aw hd hr (hp.kept hk.1.block)
 have bn:Hid (StO m ⟨l,g,none⟩):=⟨by show g<=m;omega,by show l.length+g<=_;omega,λp hp=>by cases hp⟩
 have aI:Hid (MsS M vm (.slice ad A.length V) C ⟨l,g,none⟩ J):=⟨vo,bu.out,aE.out⟩
 by_cases k2:h.kind=2
 · have I:Hid (evF (ff A) C (m+1) dot root deep h kd el (g+1)=⟨[⟨h.pos,true,x,.empty⟩],g,none⟩):=by
    unfold Hid
    rw[tj _ _ _ _ _ _ _ _ _ _ k2,HG.out]
   rw[k2]at p0
   have b6:=mz 2
   clear k1 k2 m0 m1 m3 m4 m5 m6 mz dl
   have HD:Hid (Below J.heap.size J J.drew):=⟨rfl,rfl,rfl,AG _,λ_ _=>rfl⟩
   have HR:Hid (∀W,Below J.heap.size J W->W.heap.size=J.heap.size->∀ty,∃v' w',(Builtin.append_ #[36,36] ty #[vo,.slice (some ⟨J.heap.size,0,none⟩) 1 1]).run Tryz.prog (W.alloc (.cells #[.int .i64 h.pos,.bool true,.string ⟨#[]⟩,.int .u8 (x.h.kind:Nat),.bool x.h.b,.int .i64 x.h.n,.int .u64 (x.h.bits:Nat),.string x.h.text,.slice b1 x.h.keys.length d1,.slice b2 x.items.len d2] 44))=.ok v' w'/\ApR M vm (.slice ad A.length V) vo (g:Nat) (C:Nat) 0 (l++[⟨h.pos,true,x,.empty⟩]) J v' w'):=λW hW hz=>by
    rw[<-hz]
    exact tH (x:=⟨h.pos,true,x,.empty⟩) bu.out aE.out bm.out (by omega) hW aT
   have dj:(J.alloc (.cells #[.int .i64 h.pos,.bool true,.string ⟨#[]⟩,.int .u8 (x.h.kind:Nat),.bool x.h.b,.int .i64 x.h.n,.int .u64 (x.h.bits:Nat),.string x.h.text,.slice b1 x.h.keys.length d1,.slice b2 x.items.len d2] 44)).drew.cell? ⟨M,2,none⟩=some vo:=(((AH J.heap.size J).alloc (AG _) (.cells #[.int .i64 h.pos,.bool true,.string ⟨#[]⟩,.int .u8 (x.h.kind:Nat),.bool x.h.b,.int .i64 x.h.n,.int .u64 (x.h.bits:Nat),.string x.h.text,.slice b1 x.h.keys.length d1,.slice b2 x.items.len d2] 44)).cell (p:=⟨M,2,none⟩) aT).trans m2
   go_upto_region 10 with(fail)
   go_region_law (refine pV (by rfl) _ _ 36 (by rfl) vo (.slice (some ⟨J.heap.size,0,none⟩) 1 1) (by rfl) (by rfl) _ (HR.out _ HD.out rfl) ?_;rintro v5 N ax;obtain⟨a5,n5,c5,rfl⟩:=ax.1.shp;have am:=AF ax;clear ax;have dh:N.frozen? ⟨M,2,none⟩=false:=am.out.2.1.cs.fz 2;have di:=am.out.2.1.cs.c2)
   all_goals
    go_wp2_with fail
    try first | go_end0 | refine bodyPost_ret (results_none rfl _ _ _) rfl ?_
    rw[eR,I.out]
    exact⟨rfl,U.out.trans am.out.ms.1,am.out.ms.2⟩
 by_cases k3:h.kind=3
 · have I:Hid (evF (ff A) C (m+1) dot root deep h kd el (g+1)=em (evF (ff A) C m dot root deep) (if fV x then kd else el) g):=by
    unfold Hid
    rw[yV _ _ _ _ _ _ _ _ _ _ k3];unfold ifF;rw[HG.out]
   rw[k3]at p0
   clear k1 k2
   have TC:=AF (oZ x aL.out b1 b2 d1 d2 J)
   go_upto_region 12 with(fail)
   go_wp2_with fail
   refine TC.out.mono ?_
   rintro e N ⟨rfl,aj⟩
   have R:Hid (Kt M w N):=U.out.trans (Kt.below aj (Nat.le_of_lt aT))
   have cU:=AF (aI.out.below aj aT)
   have bT:=AF ((aj.block _ (by omega)).trans bt.out)
   have dK:=AF ((aj.block _ (by omega)).trans db.out)
   have bQ:=AF ((aj.block _ (by omega)).trans bR.out)
   have bi:M<N.heap.size:=by have:=aj.size;omega
   clear aj TC p0 p1 p2 p3 p4 p5 p6 p7 v0 v1 v2 v3 v4 v5 v6 m0 m1 m2 m3 m4 m5 m6
   obtain⟨p0,p1,p2,p3,p4,p5,p6,p7⟩:=ja (P:=w.heap.size) (h:=h) bT.out
   obtain⟨x0,x1,x2,x3,x4,x5,x6⟩:=fR (h:=dot.h) dK.out
   obtain⟨y0,y1,y2,y3,y4,y5,y6⟩:=fR (h:=root.h) bQ.out
   obtain⟨tf,cc⟩:∃tf,fV x=tf:=⟨_,rfl⟩
   have dD:=AF cc
   rw[dD.out]at I ⊢
   clear cc
   have PK:Hid (∀q a c,Sk q->q.cnt<=16777216->d8 (·<M) w (.slice a q.len c) q->_):=λq a c h1 h2 h3=>bs.out N q dot root deep ⟨l,g,none⟩ a a1 a2 a3 a4 c c1 c2 c3 c4 R.out bi bn.out bH h1 h2 cU.out bo.out aX.out (bM.out.kept R.out.1.block) (bk.out.kept R.out.1.block) h3
   cases tf with
   | true=>
     have PC:=AF (PK.out kd ak ck cL.out cH cZ.out)
     go_wp2_with fail
     refine PC.out.mono ?_
     rintro e w6 ⟨rfl,ai,ao⟩
     have a7:=AF ai
     have ar:=AF ao
     clear PC ai ao
     go_wp2_with fail
     try first | go_end0 | refine bodyPost_ret (results_none rfl _ _ _) rfl ?_
     rw[eR]at ar ⊢
     rw[I.out]
     exact⟨rfl,R.out.trans a7.out,ar.out⟩
   | false=>
     have PC:=AF (PK.out el ae ce cN.out cI c8.out)
     go_wp2_with fail
     refine PC.out.mono ?_
     rintro e w6 ⟨rfl,ai,ao⟩
     have a7:=AF ai
     have ar:=AF ao
     clear PC ai ao
     go_wp2_with fail
     try first | go_end0 | refine bodyPost_ret (results_none rfl _ _ _) rfl ?_
     rw[eR]at ar ⊢
     rw[I.out]
     exact⟨rfl,R.out.trans a7.out,ar.out⟩
 by_cases k4:h.kind=4
 · rw[k4]at p0
   by_cases k6:x.h.kind=6
   · rw[k6]at v0
     have dg:Hid (∀q a c,Sk q->q.cnt<=16777216->d8 (·<M) w (.slice a q.len c) q->_):=λq a c h1 h2 h3=>bs.out J q dot root deep ⟨l,g,none⟩ a a1 a2 a3 a4 c c1 c2 c3 c4 U.out aT bn.out bH h1 h2 aI.out bo.out aX.out (bM.out.kept U.out.1.block) (bk.out.kept U.out.1.block) h3
     by_cases k0:x.items.len=0
     · have I:Hid (evF (ff A) C (m+1) dot root deep h kd el (g+1)=em (evF (ff A) C m dot root deep) el g):=by
        unfold Hid
        rw[kE _ _ _ _ _ _ _ _ _ _ k4];unfold gI;rw[HG.out];dsimp only;rw[if_pos k6,if_pos k0]
       rw[k0]at v6
       have bv:=AF k0
       have PC:=AF (dg.out el ae ce cN.out cI c8.out)
       obtain⟨x0,x1,x2,x3,x4,x5,x6⟩:=fR (h:=dot.h) db.out
       obtain⟨y0,y1,y2,y3,y4,y5,y6⟩:=fR (h:=root.h) bR.out
       clear k1 k2 k3 k4 k6 k0 m0 m1 m2 m3 m4 m5 m6 mz
       go_wp2_with fail
       refine PC.out.mono ?_
       rintro e w6 ⟨rfl,ai,ao⟩
       have a7:=AF ai
       have ar:=AF ao
       have dm:=(fR (h:=x.h) (ai.2 X _ _ _ (by omega) bj.out (by decide))).p6
       rw[bv.out]at dm
       clear PC ai ao p0 p1 p2 p3 p4 p5 p6 p7 v0 v1 v2 v3 v4 v5 v6 x0 x1 x2 x3 x4 x5 x6 y0 y1 y2 y3 y4 y5 y6
       go_wp2_with fail
       go_loopw [13] (λi wr=>i=.int .i64 0/\wr=w6) (λ_ _=>0)
       case atStart=>exact⟨rfl,rfl⟩
       case round=>
       obtain⟨rfl,rfl⟩:=hrel
       go_wp2_with fail
       try first | go_end0 | refine bodyPost_ret (results_none rfl _ _ _) rfl ?_
       rw[eR]at ar ⊢
       rw[I.out]
       exact⟨rfl,U.out.trans a7.out,ar.out⟩
     · have I:Hid (evF (ff A) C (m+1) dot root deep h kd el (g+1)=(eM h.pos (λy=>em (evF (ff A) C m y root deep) kd)) x.items g):=by
        unfold Hid
        rw[kE _ _ _ _ _ _ _ _ _ _ k4];unfold gI;rw[HG.out];dsimp only;rw[if_pos k6,if_neg k0]
       have bP:Hid (kr (·<M) b2 J x.items 0):=by
        obtain⟨_,_,hI,-,-,bJ⟩:=bm.out.2
        cases hI
        intro az
        obtain⟨b,o,q1,q2,q3⟩:=bJ az
        exact⟨b,o,q1,q2,by rw[Nat.zero_mul,Nat.add_zero];exact q3⟩
       have dS:((x.items.len:Int)==0)=false:=beq_eq_false_iff_ne.2 (by omega)
       have dF:Hid (smX x.items):=aL.out.2.1
       have dQ:x.items.len<=16777216:=Nat.le_trans (eS _) aL.out.2.2
       clear k1 k2 k3 k4 k6 k0 m0 m1 m2 m3 m4 m5 m6 mz dg
       go_wp2_with fail
       go_loopw [13] (λi wr=>∃(k:Nat) (r:Vl) (s:Ev.Rs),i=.int .i64 (k:Nat)/\k+r.len=x.items.len/\Hid (StO m s)/\Hid (smX r)/\Hid (eX r<=eX x.items)/\Hid (kr (·<M) b2 J r k)/\Hid (Kt M J wr)/\Hid (MsS M vm (.slice ad A.length V) C s wr)/\Hid (s.seq ((eM h.pos (λy=>em (evF (ff A) C m y root deep) kd)) r)=(⟨l,g,none⟩:Ev.Rs).seq ((eM h.pos (λy=>em (evF (ff A) C m y root deep) kd)) x.items))) (λi _=>x.items.len - (intOf i).toNat)
       case atStart=>exact⟨0,x.items,_,rfl,by omega,bn,dF,AG _,bP,Kt.refl _ _,aI,rfl⟩
       case round=>
        obtain⟨k,r,s,rfl,hk,aC,cK,dL,bq,ab,ah,aG⟩:=hrel
        have aM:M<wr.heap.size:=by
         obtain⟨_,_,h⟩:=ah.out
         unfold Mb at h
         exact dX h
        obtain⟨vr,av,aa⟩:=ah.out
        have aW:=AF av
        have cW:=AF aa
        obtain⟨-,-,-,-,-,m5,-,-⟩:=aa.cs
        have aD:=AF (ab.out.2 w.heap.size _ _ _ (by omega) bt.out (by decide))
        have aK:=AF (ab.out.2 X _ _ _ (by omega) bj.out (by decide))
        have cO:=AF (ab.out.2 (w.heap.size+2) _ _ _ (by omega) bR.out (by decide))
        obtain⟨p0,p1,p2,p3,p4,p5,p6,p7⟩:=ja (P:=w.heap.size) (h:=h) aD.out
        obtain⟨v0,v1,v2,v3,v4,v5,v6⟩:=fR (h:=x.h) aK.out
        clear av aa
        have dt:(0:Int)<=(k:Int):=by omega
        have dr:(k:Int)<=16777216:=by omega
        cases r with
        | nil=>
          simp only[Vl.len]at hk
          have du:¬(k:Int)<(x.items.len:Int):=by omega
          have au:Hid (MsS M vm (.slice ad A.length V) C ((⟨l,g,none⟩:Ev.Rs).seq ((eM h.pos (λy=>em (evF (ff A) C m y root deep) kd)) x.items)) wr):=by
           have h1:=ah.out
           have h2:=aG.out
           have h3:(eM h.pos (λy=>em (evF (ff A) C m y root deep) kd)) .nil=λf=>⟨[],f,none⟩:=rfl
           rw[h3,mB]at h2
           rw[h2]at h1
           exact h1
          go_wp2_with fail
          try first | go_end0 | refine bodyPost_ret (results_none rfl _ _ _) rfl ?_
          rw[eR]at au ⊢
          rw[I.out]
          exact⟨rfl,U.out.trans ab.out,au.out⟩
        | cons yh yi r=>
          simp only[Vl.len]at hk
          have cu:(k:Int)<(x.items.len:Int):=by omega
          cases aR:s.err with
          | some q=>
            have az:s.err≠none:=by rw[aR];simp
            have dq:=qo aC.out.nz az
            have h1:((erN s:Int)==0)=false:=beq_eq_false_iff_ne.2 (by omega)
            have au:Hid (MsS M vm (.slice ad A.length V) C ((⟨l,g,none⟩:Ev.Rs).seq ((eM h.pos (λy=>em (evF (ff A) C m y root deep) kd)) x.items)) wr):=by
             have h1:=ah.out
             have h2:=aG.out
             rw[pW az]at h2
             rw[h2]at h1
             exact h1
            clear aR az dq
            go_wp2_with fail
            try first | go_end0 | refine bodyPost_ret (results_none rfl _ _ _) rfl ?_
            rw[eR]at au ⊢
            rw[I.out]
            exact⟨rfl,U.out.trans ab.out,au.out⟩
          | none=>
            have dw:erN s=0:=qq aR
            rw[dw]at m5
            obtain⟨so,sf,se⟩:=s
            dsimp only at aR
            subst aR
            obtain⟨b,o,rfl,O,af⟩:=bq.out (by simp)
            have bp:Hid (kr (·<M) (some ⟨b,o,none⟩) J r (k+1)):=λ_=>⟨b,o,rfl,O,by have:=af.2.2;rwa[show o+k*7+7=o+(k+1)*7 by omega]at this⟩
            obtain⟨bB,bA,aw⟩:=cK.out
            obtain⟨y,hy⟩:∃y:Va,y=⟨yh,yi⟩:=⟨_,rfl⟩
            obtain⟨rfl,rfl⟩:yh=y.h/\yi=y.items:=by rw[hy];exact⟨rfl,rfl⟩
            clear hy
            have cG:=dL.out
            simp only[eX]at cG
            have dE:Hid (Va.sm y):=⟨bB,bA,by have:=aL.out.2.2;omega⟩
            have de:Hid (eX r<=eX x.items):=by unfold Hid;omega
            have bO:=AF aw
            have cj:=aC.out.fuel
            have bC:=aC.out.sum
            dsimp only at cj bC
            have BC:=AF (ly M vm (.slice ad A.length V) vr sf (by omega) (C:Nat) 0 h.pos wr cW.out)
            clear bB bA aw cG
            go_upto_region 24 with(fail)
            go_wp2_with fail
            refine BC.out.mono ?_
            rintro e N ⟨rfl,E,hz,hs⟩
            have ct:=E.2
            obtain⟨s1,cp⟩:∃s1:Ev.Rs,StO m s1/\MsS M vm (.slice ad A.length V) C s1 N/\(s1.seq (em (evF (ff A) C m y root deep) kd)).seq (eM h.pos (λy=>em (evF (ff A) C m y root deep) kd) r)=(⟨l,g,none⟩:Ev.Rs).seq (eM h.pos (λy=>em (evF (ff A) C m y root deep) kd) x.items):=by
             rw[<-aG.out]
             cases sf with
             | zero=>
               refine⟨⟨so,0,some (202,h.pos)⟩,⟨Nat.zero_le _,bC,λp hp=>by cases hp⟩,MsS.offM aW.out E rfl (hz rfl),?_⟩
               show(⟨so,0,some (202,h.pos)⟩:Ev.Rs)=⟨so++[],0,some (202,h.pos)⟩
               rw[List.append_nil]
             | succ f=>
               refine⟨⟨so,f,none⟩,⟨by show f<=m;omega,by show so.length+f<=_;omega,λp hp=>by cases hp⟩,MsS.offM aW.out E rfl (hs f rfl),?_⟩
               rw[jL,eR,eR]
               rfl
            have br:=AF cp
            have R:Hid (Kt M J N):=ab.out.trans (Kt.offM E)
            have bi:M<N.heap.size:=by omega
            have bT:=AF ((E.1.block w.heap.size (by omega)).trans aD.out)
            have dB:=AF ((E.1.block X (by omega)).trans aK.out)
            have bQ:=AF ((E.1.block (w.heap.size+2) (by omega)).trans cO.out)
            clear E hz hs cp BC p0 p1 p2 p3 p4 p5 p6 p7 v0 v1 v2 v3 v4 v5 v6 m5 aD aK cO aW cW ah af ct
            obtain⟨p0,p1,p2,p3,p4,p5,p6,p7⟩:=ja (P:=w.heap.size) (h:=h) bT.out
            obtain⟨v0,v1,v2,v3,v4,v5,v6⟩:=fR (h:=x.h) dB.out
            obtain⟨y0,y1,y2,y3,y4,y5,y6⟩:=fR (h:=root.h) bQ.out
            obtain⟨b',o',dy,aj,aO⟩:=bq.out (by simp)
            cases dy
            obtain⟨⟨g0,g1,g2,g3,g4,vk,g5,aN⟩,⟨ag,cg,g6,cB,cA,cz⟩,-⟩:=fF.kept (λb O=>R.out.1.block b O) _ _ _ aj aO
            obtain⟨ay,cy,rfl⟩:=aN.cases
            have dA:Hid (fu (·<M) N y ay cy ag cg):=⟨aN,⟨ag,cg,rfl,cB,cA,cz⟩⟩
            have PC:Hid (∀W,W.heap=N.heap->Below M N W->_):=λW al hW=>bs.out W kd y root deep s1 ak ay ag a3 a4 ck cy cg c3 c4 ((U.out.trans R.out).trans ⟨hW,λb cs T fr _ hc _=>by rw[al];exact hc⟩) (by rw[al];exact bi) br.out.1 bH cL.out cH (br.out.2.1.below ⟨hW.os,hW.tape,hW.output,by rw[al];exact AG _,λb _=>by rw[al]⟩ bi) dE.out aX.out (dA.out.kept hW.block) (bk.out.kept λb O=>(hW.block b O).trans ((U.out.trans R.out).1.block b O)) cZ.out
            have aF:=AF hk
            clear aN cB cA cz aO hk
            go_upto_region 25 with(fail)
            go_still_tail 10,(by kernel_rfl)
            change wpList _ _ _ _ _ N.drew
            have aV:=AF (PC.out N.drew rfl ⟨rfl,rfl,rfl,AG _,λ_ _=>rfl⟩)
            have ac:Hid (Kt M N N.drew):=⟨⟨rfl,rfl,rfl,AG _,λ_ _=>rfl⟩,λ_ _ _ _ _ h _=>h⟩
            clear p0 p1 p2 p3 p4 p5 p6 p7 v0 v1 v2 v3 v4 v5 v6 y0 y1 y2 y3 y4 y5 y6 g0 g1 g2 g3 g4 g5 g6 PC
            generalize N.drew=w6 at*
            go_wp2_with fail
            refine aV.out.mono ?_
            rintro e w7 ⟨rfl,aQ,aP⟩
            have bZ:=AF aP
            have b0:Hid (Kt M J w7):=R.out.trans (ac.out.trans aQ)
            have aY:Hid (StO m (s1.seq (em (evF (ff A) C m y root deep) kd))):=br.out.1.seq (λf=>gK (F:=f) (λx k e f _=>jc m y root deep x k e f) _ f (AG _)) (λf=>kA (λx k e f=>qg m y root deep x k e f) _ f)
            clear aQ aP aV
            go_wp2_with fail
            go_roundw
            case rel=>exact⟨k+1,r,_,by go_num,by have:=aF.out;omega,aY,bO,de,bp,b0,bZ,br.out.2.2⟩
            case measure=>simp[intOf];have:=aF.out;omega
   · have I:Hid (evF (ff A) C (m+1) dot root deep h kd el (g+1)=⟨[],g,some (201,h.pos)⟩):=by
      unfold Hid
      rw[kE _ _ _ _ _ _ _ _ _ _ k4];unfold gI;rw[HG.out];dsimp only;rw[if_neg k6]
     have n6:((x.h.kind:Int)==6)=false:=beq_eq_false_iff_ne.2 (by omega)
     have dM:((x.h.kind:Int)!=6)=true:=by simp[bne,n6]
     have FC:=AF (iD M vm (.slice ad A.length V) vo (g:Nat) (C:Nat) 0 201 0 h.pos J aE.out)
     clear k1 k2 k3 k4 k6 m0 m1 m2 m3 m4 m5 m6 mz
     go_wp2_with fail
     refine FC.out.mono ?_
     rintro e N ⟨rfl,E,aA⟩
     have K:=AF E
     have aZ:Hid (Mb M vm (.slice ad A.length V) vo (g:Nat) (C:Nat) (201:Nat) h.pos N):=aA
     clear E aA FC p0 p1 p2 p3 p4 p5 p6 p7 v0 v1 v2 v3 v4 v5 v6
     go_wp2_with fail
     try first | go_end0 | refine bodyPost_ret (results_none rfl _ _ _) rfl ?_
     rw[eR,I.out]
     exact⟨rfl,U.out.trans (Kt.offM K.out),MsS.offM bu.out K.out (List.append_nil _) aZ.out⟩
 have k5:h.kind=5:=by have:=cM.out.2;omega
 rw[k5]at p0
 by_cases kc:deep=C
 · have I:Hid (evF (ff A) C (m+1) dot root deep h kd el (g+1)=⟨[],g,some (203,h.pos)⟩):=by
    unfold Hid
    rw[pD _ _ _ _ _ _ _ _ _ _ (.inr (by omega))];unfold lx;rw[HG.out];dsimp only;rw[if_pos kc]
   have e1:((deep:Int)==(C:Int))=true:=by rw[kc];simp
   have FC:=AF (iD M vm (.slice ad A.length V) vo (g:Nat) (C:Nat) 0 203 0 h.pos J aE.out)
   clear k1 k2 k3 k4 k5 kc m0 m1 m2 m3 m5 m6 mz
   go_wp2_with fail
   refine FC.out.mono ?_
   rintro e N ⟨rfl,E,aA⟩
   have K:=AF E
   have aZ:Hid (Mb M vm (.slice ad A.length V) vo (g:Nat) (C:Nat) (203:Nat) h.pos N):=aA
   clear E aA FC p0 p1 p2 p3 p4 p5 p6 p7 v0 v1 v2 v3 v4 v5 v6
   go_wp2_with fail
   try first | go_end0 | refine bodyPost_ret (results_none rfl _ _ _) rfl ?_
   rw[eR,I.out]
   exact⟨rfl,U.out.trans (Kt.offM K.out),MsS.offM bu.out K.out (List.append_nil _) aZ.out⟩
 · have I:Hid (evF (ff A) C (m+1) dot root deep h kd el (g+1)=(m9 (λq=>em (evF (ff A) C m x x (deep+1)) q) h.name) A g):=by
    unfold Hid
    rw[pD _ _ _ _ _ _ _ _ _ _ (.inr (by omega))];unfold lx;rw[HG.out];dsimp only;rw[if_neg kc,mo _ (λf=>rfl) _ _ _ dI.out]
   have e1:((deep:Int)==(C:Int))=false:=beq_eq_false_iff_ne.2 (by omega)
   have cF:deep+1<=C:=by omega
   have bc:IntKind.i64.wrap ((deep:Int)+1)=((deep+1:Nat):Int):=by rw[IntWalk.i64_in _ ⟨by omega,by omega⟩];omega
   have dC:=AF bc
   have bP:Hid (RsD M ad J A 0):=by
    obtain⟨_,_,hI,-,-,bJ⟩:=cY.out.kept U.out.1.block
    cases hI
    intro az
    obtain⟨b,o,q1,q2,q3⟩:=bJ az
    exact⟨b,o,q1,q2,by rw[Nat.zero_mul,Nat.add_zero];exact q3⟩
   clear k1 k2 k3 k4 k5 kc m0 m1 m2 m3 m5 m6 mz bc
   go_wp2_with fail
   go_loopw [14] (λi wr=>∃(k:Nat) (r:List Df) (s:Ev.Rs),i=.int .i64 (k:Nat)/\k+r.length=A.length/\Hid (StO m s)/\Hid (∀d∈r,d∈A)/\Hid (RsD M ad J r k)/\Hid (Kt M J wr)/\Hid (MsS M vm (.slice ad A.length V) C s wr)/\Hid (s.seq ((m9 (λq=>em (evF (ff A) C m x x (deep+1)) q) h.name) r)=(⟨l,g,none⟩:Ev.Rs).seq ((m9 (λq=>em (evF (ff A) C m x x (deep+1)) q) h.name) A))) (λi _=>A.length - (intOf i).toNat)
   case atStart=>exact⟨0,A,_,rfl,by omega,bn,λ_ h=>h,bP,Kt.refl _ _,aI,rfl⟩
   case round=>
    obtain⟨k,r,s,rfl,hk,aC,c7,bq,ab,ah,aG⟩:=hrel
    obtain⟨vr,av,aa⟩:=ah.out
    have aM:M<wr.heap.size:=by
     unfold Mb at aa
     exact dX aa
    obtain⟨-,m1,-,-,-,-,-,-⟩:=aa.cs
    have aD:=AF (ab.out.2 w.heap.size _ _ _ (by omega) bt.out (by decide))
    have aK:=AF (ab.out.2 X _ _ _ (by omega) bj.out (by decide))
    obtain⟨p0,p1,p2,p3,p4,p5,p6,p7⟩:=ja (P:=w.heap.size) (h:=h) aD.out
    clear av aa
    have dt:(0:Int)<=(k:Int):=by omega
    have dr:(k:Int)<=16777216:=by omega
    cases r with
    | nil=>
      simp only[List.length_nil]at hk
      have du:¬(k:Int)<(A.length:Int):=by omega
      have au:Hid (MsS M vm (.slice ad A.length V) C ((⟨l,g,none⟩:Ev.Rs).seq ((m9 (λq=>em (evF (ff A) C m x x (deep+1)) q) h.name) A)) wr):=by
       have h1:=ah.out
       have h2:=aG.out
       have h3:(m9 (λq=>em (evF (ff A) C m x x (deep+1)) q) h.name) []=λf=>⟨[],f,none⟩:=rfl
       rw[h3,mB]at h2
       rw[h2]at h1
       exact h1
      go_wp2_with fail
      try first | go_end0 | refine bodyPost_ret (results_none rfl _ _ _) rfl ?_
      rw[eR]at au ⊢
      rw[I.out]
      exact⟨rfl,U.out.trans ab.out,au.out⟩
    | cons d r=>
      simp only[List.length_cons]at hk
      have cu:(k:Int)<(A.length:Int):=by omega
      obtain⟨b,o,rfl,O,af⟩:=bq.out (by simp)
      have bp:Hid (RsD M (some ⟨b,o,none⟩) J r (k+1)):=λ_=>⟨b,o,rfl,O,by have:=af.2.2.2;rwa[show o+k*3+3=o+(k+1)*3 by omega]at this⟩
      obtain⟨g0,g1,⟨v2,g2,bf⟩,-⟩:=hZ.kept (λb O=>ab.out.1.block b O) _ _ _ O af
      have bF:Hid (∀d∈r,d∈A):=λd hd=>c7.out d (List.mem_cons_of_mem _ hd)
      have da:=AF (dJ.out d (c7.out d (List.mem_cons_self ..)))
      have aF:=AF hk
      by_cases hn:d.name=h.name
      · have dn:(d.name.toList==h.name.toList)=true:=by rw[hn];simp
        obtain⟨aq,cq,rfl,-⟩:=id bf
        have ba:Hid ((s.seq (em (evF (ff A) C m x x (deep+1)) d.kids)).seq ((m9 (λq=>em (evF (ff A) C m x x (deep+1)) q) h.name r))=(⟨l,g,none⟩:Ev.Rs).seq ((m9 (λq=>em (evF (ff A) C m x x (deep+1)) q) h.name A))):=by
         unfold Hid
         rw[<-aG.out,jL]
         congr 1
         funext f
         simp[m9,hn]
        have cS:=AF bf
        have ac:Hid (∀nq,Kt M J (wr.drewN nq)):=λnq=>ab.out.trans ⟨ei (AH _ _) nq,λ_ _ _ _ _ h _=>h⟩
        have aJ:Hid (∀nq,MsS M vm (.slice (some ⟨b,o,none⟩) A.length V) C s (wr.drewN nq)):=λnq=>ah.out.below (ei (AH _ _) nq) aM
        clear hn af bf hk
        go_wp2_with fail
        go_quiet (fail)
        have cr:(wr.drewN nq).heap[w.heap.size]? =_:=aD.out
        have b8:(wr.drewN nq).heap[X]? =_:=aK.out
        have b7:M<(wr.drewN nq).heap.size:=aM
        have aA:(wr.drewN nq).cell? ⟨M,1,none⟩=_:=m1
        have dv:(wr.drewN nq).cell? ⟨b,o+k*3+2,none⟩=_:=g2
        have cR:Hid (d8 (·<M) (wr.drewN nq) (.slice aq d.kids.len cq) d.kids):=cS.out.kept (λ_ _=>rfl)
        have R:=AF (ac.out nq)
        have aZ:=AF (aJ.out nq)
        clear ac aJ p0 p1 p2 p3 p4 p5 p6 p7 m1 g0 g1 g2 aD aK aM cS
        generalize wr.drewN nq=N at*
        obtain⟨p0,p1,p2,p3,p4,p5,p6,p7⟩:=ja (P:=w.heap.size) (h:=h) cr
        obtain⟨v0,v1,v2,v3,v4,v5,v6⟩:=fR (h:=x.h) b8
        have bE:=AF (U.out.trans R.out)
        have PC:Hid (∀W,W.heap=N.heap->Below M N W->_):=λW al hW=>bs.out W d.kids x x (deep+1) s aq b1 b2 b1 b2 cq d1 d2 d1 d2 (bE.out.trans ⟨hW,λb cs T fr _ hc _=>by rw[al];exact hc⟩) (by rw[al];exact b7) aC.out cF da.out.1 da.out.2 (aZ.out.below ⟨hW.os,hW.tape,hW.output,by rw[al];exact AG _,λb _=>by rw[al]⟩ b7) aL.out aL.out (bm.out.kept λb O=>(hW.block b O).trans (R.out.1.block b O)) (bm.out.kept λb O=>(hW.block b O).trans (R.out.1.block b O)) (cR.out.kept λb O=>(bE.out.1.block b O).symm)
        have bc:=dC.out
        clear cr b8
        go_wp2_with fail
        go_still_tail 14,(by kernel_rfl)
        change wpList _ _ _ _ _ N.drew
        have aV:=AF (PC.out N.drew rfl ⟨rfl,rfl,rfl,AG _,λ_ _=>rfl⟩)
        have ac:Hid (Kt M N N.drew):=⟨⟨rfl,rfl,rfl,AG _,λ_ _=>rfl⟩,λ_ _ _ _ _ h _=>h⟩
        clear p0 p1 p2 p3 p4 p5 p6 p7 v0 v1 v2 v3 v4 v5 v6 dv aA PC bc
        generalize N.drew=w6 at*
        go_wp2_with fail
        refine aV.out.mono ?_
        rintro e w7 ⟨rfl,aQ,aP⟩
        have bZ:=AF aP
        have b0:Hid (Kt M J w7):=R.out.trans (ac.out.trans aQ)
        have aY:Hid (StO m (s.seq (em (evF (ff A) C m x x (deep+1)) d.kids))):=aC.out.seq (λf=>gK (F:=f) (λh k e f _=>jc m x x (deep+1) h k e f) _ f (AG _)) (λf=>kA (λh k e f=>qg m x x (deep+1) h k e f) _ f)
        clear aQ aP aV
        go_wp2_with fail
        go_roundw
        case rel=>exact⟨k+1,r,_,by go_num,by have:=aF.out;omega,aY,bF,bp,b0,bZ,ba⟩
        case measure=>simp[intOf];have:=aF.out;omega
      · have dn:(d.name.toList==h.name.toList)=false:=beq_eq_false_iff_ne.2 (λe=>hn (by rw[ByteArray.toList_eq,ByteArray.toList_eq]at e;exact ByteArray.ext (Array.ext' e)))
        have ba:Hid (s.seq ((m9 (λq=>em (evF (ff A) C m x x (deep+1)) q) h.name) r)=(⟨l,g,none⟩:Ev.Rs).seq ((m9 (λq=>em (evF (ff A) C m x x (deep+1)) q) h.name) A)):=by
         unfold Hid
         rw[<-aG.out]
         congr 1
         funext f
         simp[m9,hn]
        have ac:Hid (∀nq,Kt M J (wr.drewN nq)):=λnq=>ab.out.trans ⟨ei (AH _ _) nq,λ_ _ _ _ _ h _=>h⟩
        have aJ:Hid (∀nq,MsS M vm (.slice (some ⟨b,o,none⟩) A.length V) C s (wr.drewN nq)):=λnq=>ah.out.below (ei (AH _ _) nq) aM
        clear hn af bf hk
        go_wp2_with fail
        go_quiet (fail)
        go_wp2_with fail
        go_roundw
        case rel=>exact⟨k+1,r,s,by go_num,by have:=aF.out;omega,aC,bF,bp,ac.out _,aJ.out _,ba⟩
        case measure=>simp[intOf];have:=aF.out;omega
theorem vL (M:Nat)(J:Value)(I:Option Addr)(G:Nat)(o:List Df)(E:o.length<=16777216)(r:twice (o.map λd=>bl d.name)=false)(A:∀d∈o,Sk d.kids/\d.kids.cnt<=16777216)(C:Nat)(K:C<=256):
 ∀n,PsS M J (.slice I o.length G) (λw=>fU (·<M) w (.slice I o.length G) o) (ff o) C n
 | 0=>qb _ _ _ _ (λw w' h k=>k.kept h.block) _ _ _ (qa M J I G o E r A C K 0 λm h=>by omega)
 | n +1=>qb _ _ _ _ (λw w' h k=>k.kept h.block) _ _ _ (qa M J I G o E r A C K (n+1) λm h=>by
     obtain rfl:n=m:=by omega
     exact vL M J I G o E r A C K n)
end Go.Proofs.YtepcpgdfbaklfaaGreatDoor
