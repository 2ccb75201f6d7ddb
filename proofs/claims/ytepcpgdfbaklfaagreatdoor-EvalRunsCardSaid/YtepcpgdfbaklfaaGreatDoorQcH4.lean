/- The contract of eval.Run. The condition: sizes of at most 2 to the 24th; the tables read as they were laid. -/
import Derived.Test.YtepcpgdfbaklfaaGreatDoorQcG9
import Derived.Test.YtepcpgdfbaklfaaGreatDoorQcH1
import Derived.Test.YtepcpgdfbaklfaaGreatDoorQcTl7
import Derived.Test.YtepcpgdfbaklfaaGreatDoorQcTs0
import Derived.Test.YtepcpgdfbaklfaaGreatDoorQcTpe
set_option maxRecDepth 100000
set_option maxHeartbeats 40000000
set_option linter.unusedSimpArgs false
set_option linter.unusedVariables false
namespace Go.Proofs.YtepcpgdfbaklfaaGreatDoor
open Go.RowKit Go.Shelf Ev
attribute [local go_sem] Oper.semAt_some
theorem jm (t:Tm)(hz:TmZ t)(v:Va)(aD:Va.sm v)(fuel calls:Int)(M N a1 a2:Option Addr)(I J c1 c2:Nat)(w:World)(hg:Gd w)(hp:d8 (·<w.heap.size) w (.slice M t.main.len I) t.main)(hd:fU (·<w.heap.size) w (.slice N t.defs.length J) t.defs)(hv:fu (·<w.heap.size) w v a1 c1 a2 c2):
 Calls Tryz.prog 12 #[.agg #[.slice M t.main.len I,.slice N t.defs.length J],.agg #[.int .u8 (v.h.kind:Nat),.bool v.h.b,.int .i64 v.h.n,.int .u64 (v.h.bits:Nat),.string v.h.text,.slice a1 v.h.keys.length c1,.slice a2 v.items.len c2],.int .i64 fuel,.int .i64 calls] w (vT (Ev.runT t v fuel calls) w):=by
 have bK:∀(fn:Fn) (first cap:Array Value) (w:World),(Instr.makeFunc fn first cap).run Tryz.prog w=.ok (.func fn first cap) w:=λ_ _ _ _=>rfl
 have CC:Hid (∀W,Below w.heap.size w W->Calls Tryz.prog 22 #[.agg #[.slice M t.main.len I,.slice N t.defs.length J]] W (mt t W)):=λW hW=>
  pJ t hz _ _ W (hg.belowB hg.glB hW) ((hp.kept (eL.of_below hW)).mono (λb E=>AI E hW.size)) ((hd.kept (eL.of_below hW)).mono (λb E=>AI E hW.size))
 have JC:Hid (∀W,Below w.heap.size w W->Calls Tryz.prog 29 #[.agg #[.int .u8 (v.h.kind:Nat),.bool v.h.b,.int .i64 v.h.n,.int .u64 (v.h.bits:Nat),.string v.h.text,.slice a1 v.h.keys.length c1,.slice a2 v.items.len c2]] W λe w'=>e=.returned (.int .i64 (jg v:Nat))/\Below W.heap.size W w'):=λW hW=>
  nV v (·<w.heap.size) a1 a2 c1 c2 W aD (hv.kept (eL.of_below hW))
 have HZ:=AF hz
 have bu:=AF aD
 have HP:=AF hp
 have HD:=AF hd
 have HV:=AF hv
 clear hz aD hg hp hd hv
 refine vv 5 Tryz.func12 rfl ?_
 intro b aR U
 have bE:=AF aR
 clear aR
 simp only[Tryz.ntmps12,List.size_toArray,List.length_cons,List.length_nil,Nat.reduceAdd,Nat.reduceSub,Array.replicate_succ,Array.replicate_zero,List.push_toArray,List.append_toArray,List.nil_append,List.cons_append]
 refine jH.seq 5 U ?_
 intro K G
 have HK:=AF G
 clear G
 have HT:Hid (∀W0,(((((w.alloc (.cells #[.slice M t.main.len I,.slice N t.defs.length J] 25)).alloc (.cells #[.int .u8 (v.h.kind:Nat),.bool v.h.b,.int .i64 v.h.n,.int .u64 (v.h.bits:Nat),.string v.h.text,.slice a1 v.h.keys.length c1,.slice a2 v.items.len c2] 31)).alloc (.cells #[.slice none 0 0] 36)).alloc (.cells #[.int .i64 0] 37)).alloc (.cells #[.int .i64 0] 3))=W0->
  Below w.heap.size w W0/\W0.heap.size=w.heap.size+5/\W0.heap[w.heap.size]? =some (.cells #[.slice M t.main.len I,.slice N t.defs.length J] 25 (0,0))/\W0.heap[w.heap.size+1]? =some (.cells #[.int .u8 (v.h.kind:Nat),.bool v.h.b,.int .i64 v.h.n,.int .u64 (v.h.bits:Nat),.string v.h.text,.slice a1 v.h.keys.length c1,.slice a2 v.items.len c2] 31 (0,0))/\jf (w.heap.size+2) (.slice none 0 0) (.int .i64 0) (.int .i64 0) W0):=by
  rintro W0 rfl
  have n0:=heap_alloc_new w (.cells #[.slice M t.main.len I,.slice N t.defs.length J] 25)
  have n1:=heap_alloc_new (w.alloc (.cells #[.slice M t.main.len I,.slice N t.defs.length J] 25)) (.cells #[.int .u8 (v.h.kind:Nat),.bool v.h.b,.int .i64 v.h.n,.int .u64 (v.h.bits:Nat),.string v.h.text,.slice a1 v.h.keys.length c1,.slice a2 v.items.len c2] 31)
  have n2:=heap_alloc_new ((w.alloc (.cells #[.slice M t.main.len I,.slice N t.defs.length J] 25)).alloc (.cells #[.int .u8 (v.h.kind:Nat),.bool v.h.b,.int .i64 v.h.n,.int .u64 (v.h.bits:Nat),.string v.h.text,.slice a1 v.h.keys.length c1,.slice a2 v.items.len c2] 31)) (.cells #[.slice none 0 0] 36)
  have n3:=heap_alloc_new (((w.alloc (.cells #[.slice M t.main.len I,.slice N t.defs.length J] 25)).alloc (.cells #[.int .u8 (v.h.kind:Nat),.bool v.h.b,.int .i64 v.h.n,.int .u64 (v.h.bits:Nat),.string v.h.text,.slice a1 v.h.keys.length c1,.slice a2 v.items.len c2] 31)).alloc (.cells #[.slice none 0 0] 36)) (.cells #[.int .i64 0] 37)
  have n4:=heap_alloc_new ((((w.alloc (.cells #[.slice M t.main.len I,.slice N t.defs.length J] 25)).alloc (.cells #[.int .u8 (v.h.kind:Nat),.bool v.h.b,.int .i64 v.h.n,.int .u64 (v.h.bits:Nat),.string v.h.text,.slice a1 v.h.keys.length c1,.slice a2 v.items.len c2] 31)).alloc (.cells #[.slice none 0 0] 36)).alloc (.cells #[.int .i64 0] 37)) (.cells #[.int .i64 0] 3)
  simp only[World.size_alloc,Nat.add_assoc,Nat.reduceAdd]at n1 n2 n3 n4
  refine⟨(((((AH _ w).alloc (AG _) _).alloc (by simp) _).alloc (by simp <;> omega) _).alloc (by simp <;> omega) _).alloc (by simp <;> omega) _,by simp,?_,?_,⟨?_,?_,n4⟩⟩
  · exact(Below.heap_alloc _ _ _ (by simp <;> omega)).trans ((Below.heap_alloc _ _ _ (by simp <;> omega)).trans ((Below.heap_alloc _ _ _ (by simp <;> omega)).trans ((Below.heap_alloc _ _ _ (by simp)).trans n0)))
  · exact(Below.heap_alloc _ _ _ (by simp <;> omega)).trans ((Below.heap_alloc _ _ _ (by simp <;> omega)).trans ((Below.heap_alloc _ _ _ (by simp)).trans n1))
  · exact(Below.heap_alloc _ _ _ (by simp <;> omega)).trans ((Below.heap_alloc _ _ _ (by simp)).trans n2)
  · exact(Below.heap_alloc _ _ _ (by simp)).trans n3
 gi_wp2_with fail
 try simp only[Nat.add_assoc,Nat.reduceAdd]
 generalize bk:World.alloc (World.alloc (World.alloc (World.alloc (World.alloc w _) _) _) _) _=W0 at*
 obtain⟨aX,aB,au,aT,aW⟩:=HT.out W0 rfl
 clear bk HT
 have bc:=AF aX
 have bt:=AF au
 have br:=AF aT
 have bw:=AF aW
 clear aX aW aT
 refine HK.out _ _ (jH.seq 5 U ?_)
 clear HK K
 intro K G
 have HK:=AF G
 clear G
 have t0:W0.cell? ⟨w.heap.size,0,none⟩=some (.slice M t.main.len I):=by rw[dW au];rfl
 have t1:W0.cell? ⟨w.heap.size,1,none⟩=some (.slice N t.defs.length J):=by rw[dW au];rfl
 clear au
 gi_wp2_with fail
 refine⟨trivial,(callsIn_wide.2 (CC.out _ bc.out)).mono ?_⟩
 rintro e w1 ⟨rfl,V⟩
 have aI:Hid (Below w.heap.size w w1):=bc.out.trans (V.mono (by omega))
 have aj:=AF (bw.out.below V (by omega))
 have O:Hid (w1.heap[w.heap.size+1]? =some (.cells #[.int .u8 (v.h.kind:Nat),.bool v.h.b,.int .i64 v.h.n,.int .u64 (v.h.bits:Nat),.string v.h.text,.slice a1 v.h.keys.length c1,.slice a2 v.items.len c2] 31 (0,0))):=(V.block _ (by omega)).trans br.out
 have bs:Hid (w1.heap[w.heap.size]? =some (.cells #[.slice M t.main.len I,.slice N t.defs.length J] 25 (0,0))):=(V.block _ (by omega)).trans bt.out
 have aA:w.heap.size+5<=w1.heap.size:=by have:=V.size;omega
 clear V t0 t1 aB
 obtain⟨r0,r1,r2,fl,fe,fa,-⟩:=aj.out.cells
 by_cases hc:t.check=0
 rotate_left
 · have ag:((t.check:Int)!=0)=true:=by
    have:((t.check:Int)==0)=false:=beq_eq_false_iff_ne.2 (by omega)
    simp only[bne,this];rfl
   have aG:Hid (Ev.runT t v fuel calls=([],t.check,0)):=by unfold Hid Ev.runT;rw[if_pos hc]
   clear hc
   gi_wp2_with fail
   show LeavesInM _ _ _ _ _ _ [] _ _
   rw[aG.out]
   refine pX (L:=w.heap.size+2) rfl rfl rfl (aj.out.set _ _ _) ?_
   exact⟨aI.out.trans ((kQ _ _ _ _).mono λb E=>by have:b<w.heap.size:=E;omega).below,none,0,rfl,Pcs.nil _ _⟩
 have ag:((t.check:Int)!=0)=false:=by rw[hc];rfl
 have HC:=AF hc
 clear hc
 gi_wp2_with fail
 clear r0 r1 r2 fl fe fa ag
 refine HK.out _ _ (jH.seq 5 U ?_)
 clear HK K
 intro K G
 have HK:=AF G
 clear G
 have v0:w1.cell? ⟨w.heap.size+1,0,none⟩=some (.int .u8 (v.h.kind:Nat)):=by rw[dW O.out];rfl
 have v1:w1.cell? ⟨w.heap.size+1,1,none⟩=some (.bool v.h.b):=by rw[dW O.out];rfl
 have v2:w1.cell? ⟨w.heap.size+1,2,none⟩=some (.int .i64 v.h.n):=by rw[dW O.out];rfl
 have v3:w1.cell? ⟨w.heap.size+1,3,none⟩=some (.int .u64 (v.h.bits:Nat)):=by rw[dW O.out];rfl
 have v4:w1.cell? ⟨w.heap.size+1,4,none⟩=some (.string v.h.text):=by rw[dW O.out];rfl
 have v5:w1.cell? ⟨w.heap.size+1,5,none⟩=some (.slice a1 v.h.keys.length c1):=by rw[dW O.out];rfl
 have v6:w1.cell? ⟨w.heap.size+1,6,none⟩=some (.slice a2 v.items.len c2):=by rw[dW O.out];rfl
 gi_wp2_with fail
 refine⟨trivial,(callsIn_wide.2 (JC.out _ aI.out)).mono ?_⟩
 rintro e w2 ⟨rfl,ac⟩
 have ba:Hid (Below w.heap.size w w2):=aI.out.trans (ac.mono (by omega))
 have ai:=AF (aj.out.below ac (by omega))
 have Y:Hid (w2.heap[w.heap.size+1]? =some (.cells #[.int .u8 (v.h.kind:Nat),.bool v.h.b,.int .i64 v.h.n,.int .u64 (v.h.bits:Nat),.string v.h.text,.slice a1 v.h.keys.length c1,.slice a2 v.items.len c2] 31 (0,0))):=(ac.block _ (by omega)).trans O.out
 have aY:Hid (w2.heap[w.heap.size]? =some (.cells #[.slice M t.main.len I,.slice N t.defs.length J] 25 (0,0))):=(ac.block _ (by omega)).trans bs.out
 have aJ:w.heap.size+5<=w2.heap.size:=by have:=ac.size;omega
 clear ac v0 v1 v2 v3 v4 v5 v6 aA
 obtain⟨r0,r1,r2,fl,fe,fa,-⟩:=ai.out.cells
 by_cases hc:jg v=0
 rotate_left
 · have ag:((jg v:Int)!=0)=true:=by
    have:((jg v:Int)==0)=false:=beq_eq_false_iff_ne.2 (by omega)
    simp only[bne,this];rfl
   have aG:Hid (Ev.runT t v fuel calls=([],jg v,0)):=by unfold Hid Ev.runT;rw[if_neg (by rw[HC.out];simp),if_pos hc]
   clear hc
   gi_wp2_with fail
   show LeavesInM _ _ _ _ _ _ [] _ _
   rw[aG.out]
   refine pX (L:=w.heap.size+2) rfl rfl rfl (ai.out.set _ _ _) ?_
   exact⟨ba.out.trans ((kQ _ _ _ _).mono λb E=>by have:b<w.heap.size:=E;omega).below,none,0,rfl,Pcs.nil _ _⟩
 have ag:((jg v:Int)!=0)=false:=by rw[hc];rfl
 have bD:=AF hc
 clear hc
 gi_wp2_with fail
 clear r0 r1 r2 fl fe fa ag
 refine HK.out _ _ (jH.seq 5 U ?_)
 clear HK K
 intro K G
 have HK:=AF G
 clear G
 gi_wp2_with fail
 refine HK.out _ _ (jH.seqW (jH.seq 5 U ?_))
 clear HK K
 intro K G
 have HK:=AF G
 clear G
 have v0:w2.cell? ⟨w.heap.size+1,0,none⟩=some (.int .u8 (v.h.kind:Nat)):=by rw[dW Y.out];rfl
 have v1:w2.cell? ⟨w.heap.size+1,1,none⟩=some (.bool v.h.b):=by rw[dW Y.out];rfl
 have v2:w2.cell? ⟨w.heap.size+1,2,none⟩=some (.int .i64 v.h.n):=by rw[dW Y.out];rfl
 have v3:w2.cell? ⟨w.heap.size+1,3,none⟩=some (.int .u64 (v.h.bits:Nat)):=by rw[dW Y.out];rfl
 have v4:w2.cell? ⟨w.heap.size+1,4,none⟩=some (.string v.h.text):=by rw[dW Y.out];rfl
 have v5:w2.cell? ⟨w.heap.size+1,5,none⟩=some (.slice a1 v.h.keys.length c1):=by rw[dW Y.out];rfl
 have v6:w2.cell? ⟨w.heap.size+1,6,none⟩=some (.slice a2 v.items.len c2):=by rw[dW Y.out];rfl
 have t0:w2.cell? ⟨w.heap.size,0,none⟩=some (.slice M t.main.len I):=by rw[dW aY.out];rfl
 have t1:w2.cell? ⟨w.heap.size,1,none⟩=some (.slice N t.defs.length J):=by rw[dW aY.out];rfl
 gi_wp2_with fail
 refine⟨trivial,(callsIn_wide.2 (nG _ _ _ _ _ _ _ _ _ fuel calls w2)).mono ?_⟩
 rintro e w3 ⟨rfl,aE,aM,aL,aK,aC⟩
 have aH:Hid (Below w.heap.size w w3):=ba.out.trans (aE.mono (by omega))
 have ah:=AF (ai.out.below aE (by omega))
 have bq:=AF aM
 have bp:=AF aL
 have bo:=AF aK
 have bn:=AF aC
 have bI:w2.heap.size+4<=w3.heap.size:=by have:=dX aC;omega
 clear aE aM aL aK aC v0 v1 v2 v3 v4 v5 v6 t0 t1
 gi_wp2_with fail
 refine HK.out _ _ (jH.block ?_)
 clear HK K
 obtain⟨r,hr⟩:∃r,r=pY (ff t.defs) (eG 256 calls) t.main v (eG 1000000 fuel):=⟨_,rfl⟩
 have aV:Ev.runT t v fuel calls=tm r:=by rw[hr];exact yA HC.out bD.out
 rw[aV]
 clear aV
 have aN:=(qv t HC.out).2.2.2.2.1
 have ar:eL (·<w.heap.size) w w3:=eL.of_below aH.out
 have HH:=AF (nE t HZ.out aN v bu.out fuel calls w3 (·<w.heap.size) (λb E=>by have:b<w.heap.size:=E;omega) M N a1 a2 I J c1 c2 _ _ _ _ bq.out bp.out bo.out bn.out (HP.out.kept ar) (HD.out.kept ar) (HV.out.kept ar) r hr)
 clear aN ar hr
 refine jH.rangeV U (fn:=Tryz.f12) (by rw[bE.out];exact Tryz.func12) rfl (enters_of Tryz.func51 (by kernel_rfl) rfl) HH.out (λx A B h ho=>wQ _ x A B h ho) (λ_=>rfl)
  (PcI w3.heap.size (w.heap.size+2)) (·=w.heap.size+2) (λb E=>by have:b=w.heap.size+2:=E;omega) (λb E=>by have:b<w.heap.size:=E;exact⟨by omega,by omega⟩) (PcI.lies _ _) (λS az W h=>h.lt) (PcI.start (AG _) ah.out.l) pcO
  (λx p=>{tmps:=#[.agg #[.slice M t.main.len I,.slice N t.defs.length J],.agg #[.int .u8 (v.h.kind:Nat),.bool v.h.b,.int .i64 v.h.n,.int .u64 (v.h.bits:Nat),.string v.h.text,.slice a1 v.h.keys.length c1,.slice a2 v.items.len c2],.int .i64 fuel,.int .i64 calls,.pointer (some ⟨w.heap.size,0,none⟩),.pointer (some ⟨w.heap.size+1,0,none⟩),undef,undef,.pointer (some ⟨w.heap.size+2,0,none⟩),.pointer (some ⟨w.heap.size+3,0,none⟩),.pointer (some ⟨w.heap.size+4,0,none⟩),.int .i64 (t.check:Nat),.int .i64 (jg v:Nat),.pointer (some ⟨p,0,none⟩),.agg #[.slice M t.main.len I,.slice N t.defs.length J],.int .i64 (t.check:Nat),.int .i64 (t.check:Nat),.bool false,undef,.agg #[.int .u8 (v.h.kind:Nat),.bool v.h.b,.int .i64 v.h.n,.int .u64 (v.h.bits:Nat),.string v.h.text,.slice a1 v.h.keys.length c1,.slice a2 v.items.len c2],.int .i64 (jg v:Nat),.int .i64 (jg v:Nat),.bool false,undef,.func (.func 30) #[] #[.pointer (some ⟨w.heap.size+3,0,none⟩),.pointer (some ⟨w.heap.size+4,0,none⟩)],.agg #[.slice M t.main.len I,.slice N t.defs.length J],.agg #[.int .u8 (v.h.kind:Nat),.bool v.h.b,.int .i64 v.h.n,.int .u64 (v.h.bits:Nat),.string v.h.text,.slice a1 v.h.keys.length c1,.slice a2 v.items.len c2],.int .i64 fuel,.int .i64 calls,.func (.func 51) #[] #[.pointer (some ⟨w2.heap.size,0,none⟩),.pointer (some ⟨w2.heap.size+1,0,none⟩),.pointer (some ⟨w2.heap.size+2,0,none⟩),.pointer (some ⟨w2.heap.size+3,0,none⟩)],.agg (pcA x),undef,undef,undef,undef,undef],defers:=[]}) ?assign ?body ?done ?pan
 case assign=>
  intro l x W K G
  dsimp only[xA]
  gi_wp2_with fail
  exact G
 case body=>
  intro l S az x p W hI bG hx aO bO bN
  obtain⟨q0,q1,q2,q3,q4,q5,q6,q7,q8,q9⟩:=zK aO
  obtain⟨vl,cs,hl,ay,hS,ax⟩:=hI.row
  have bj:W.cell? ⟨w.heap.size+2,0,none⟩=some vl:=by rw[dW hl];rfl
  have bi:=dX hl
  have bJ:=dX aO
  have HI:=AF hI
  have HX:=AF hx
  have HL:=AF hl
  have aa:=AF ay
  have HS:=AF hS
  have aZ:=AF ax
  clear hI hx hl ay hS ax
  have aw:Hid (Below W.heap.size W (W.alloc (.cells (pcA x) 44))):=(AH _ W).alloc (AG _) _
  have a8:Hid ((W.alloc (.cells (pcA x) 44)).heap[W.heap.size]? =some (.cells (pcA x) 44 (0,0))):=heap_alloc_new W _
  have a7:Hid ((W.alloc (.cells (pcA x) 44)).ownsRow w3.heap.size 44 10 vl az.length cs):=fA aa.out (λg hg=>aw.out.block g (fg aa.out g hg).2)
  unfold pcA at aw a8 a7
  obtain⟨i0,hi,aB,aA,aJ⟩:=info_parts nX
  have bH:w3.heap.size<=W.heap.size:=HI.out.big
  dsimp only
  gi_wp2_with (gi_at_builtin;refine iJ _ rfl _ _ 36 rfl w3.heap.size 44 i0 _ 10 120 Tryz.underlying36 hi aB aA aJ (by rfl) (by decide) vl az.length cs rfl a7.out ⟨W.heap.size,0,none⟩ 1 1 (pcL x.pc x.a1 x.c1 x.a2 x.c2) rfl (by rfl) (ir a8.out) ?one (by decide) (by unfold maxLen;omega) (by omega) ?base ?go)
  case one=>
   intro u hu
   simp only[pcL,List.mem_cons,List.not_mem_nil,or_false]at hu
   rcases hu with rfl | rfl | rfl | rfl | rfl | rfl | rfl | rfl | rfl | rfl <;> rfl
  case base=>simp;omega
  case go=>
   intro g cap W1 ae R aS aP
   have bh:vl.ownBlock≠some (w.heap.size+2):=λe=>by have:=(fg aa.out _ e).1;omega
   have aq:W1.heap[w.heap.size+2]? =some (.cells #[vl] 36 (0,0)):=((R.block _ (by simp;omega) (λe=>bh e.symm)).trans (aw.out.block _ bi)).trans HL.out
   have bM:W1.cell? ⟨w.heap.size+2,0,none⟩=some vl:=by rw[dW aq];rfl
   have bL:=dY aq
   have V:=dX aq
   have bA:=AF ae
   have bC:=AF R
   have bF:=AF aS
   clear ae R aS bj q0 q1 q2 q3 q4 q5 q6 q7 q8 q9 aq
   gi_wp2_with fail
   exact PcI.more HI.out HX.out.new HX.out.is (by omega) aw.out vl cs HL.out aa.out aZ.out HS.out g cap bA.out bC.out (bF.out.imp id λe=>e.trans (by simp)) aP rfl
 case done=>
  rintro D S xs W hD ⟨ap,ao⟩ hI aF o G
  dsimp only
  have al:=(o.block (w.heap.size+3) ⟨by omega,by omega⟩).trans ah.out.e
  have an:=(o.block (w.heap.size+4) ⟨by omega,by omega⟩).trans ah.out.a
  have aQ:=hI.big
  have aU:=hI.lt
  obtain⟨vl,ab,m⟩:=hI.pcs
  obtain⟨av,cv,rfl,-⟩:=id m
  have af:(xs.map It.pc).length=xs.length:=List.length_map _
  rw[af]at ab m
  have hR:jf (w.heap.size+2) (.slice av xs.length cv) (.int .i64 0) (.int .i64 0) W:=⟨ab,al,an⟩
  obtain⟨r0,r1,r2,fl,fe,fa,-⟩:=hR.cells
  have bv:=AF hR
  have bB:=AF G
  have bz:=AF m
  have a6:=AF o
  have aj:=AF ap
  have ai:=AF ao
  clear hR G m o ap ao al an ab hI aU
  show jH b Tryz.prog _ _ _ _
  refine jH.of (n:=5) U ?_
  gi_wp2_with fail
  show LeavesInM _ _ _ _ _ _ ({target:=.collected D,args:=#[]}::ot (w.heap.size+2)) _ _
  have Z:=AF (bv.out.set (.slice av xs.length cv) (.int .i64 0) (.int .i64 0))
  have ak:=AF (kQ (L:=w.heap.size+2) (.slice av xs.length cv) (.int .i64 0) (.int .i64 0) W)
  clear r0 r1 r2 fl fe fa
  suffices hsf:∀W3,jf (w.heap.size+2) (.slice av xs.length cv) (.int .i64 0) (.int .i64 0) W3->Off (λb=>b≠w.heap.size+2/\b≠w.heap.size+2+1/\b≠w.heap.size+2+2) W W3->LeavesInM Fence.wide 5 Tryz.prog Tryz.f12 _ (vT (tm r) w) ({target:=.collected D,args:=#[]}::ot (w.heap.size+2)) .returning W3 from hsf _ Z.out ak.out
  clear Z ak
  intro W3 bf bg
  have Z:=AF bf
  have ak:=AF bg
  have bm:W3.heap[D]? =some (.deferred (some [])):=(ak.out.block D ⟨by omega,by omega,by omega⟩).trans bB.out
  refine j5 (by simp) (run_takeDeferred bm) (uE (L:=w.heap.size+2) (x:=.slice av xs.length cv) (y:=.int .i64 0) (z:=.int .i64 0) rfl rfl rfl ?_ ?_)
  · obtain⟨x1,x2,x3⟩:=Z.out
    exact⟨(World.putObj_heap_other (by omega)).trans x1,(World.putObj_heap_other (by omega)).trans x2,(World.putObj_heap_other (by omega)).trans x3⟩
  · exact r9 (n:=0) (L:=w.heap.size+2) (by omega) aH.out (by omega) hD aF a6.out ((ak.out.mono λb E=>⟨E.2.1,E.2.2.1,E.2.2.2.1⟩).trans (Off.putObj _ (λh=>h.2.2.2.2 rfl))) bz.out af (by rw[ai.out];unfold tm;rw[aj.out])
 case pan=>
  rintro D S ch xs W hD ⟨n,p,rfl,ap,ao⟩ hI aF o G
  dsimp only
  have al:=(o.block (w.heap.size+3) ⟨by omega,by omega⟩).trans ah.out.e
  have an:=(o.block (w.heap.size+4) ⟨by omega,by omega⟩).trans ah.out.a
  have aQ:=hI.big
  obtain⟨vl,ab,m⟩:=hI.pcs
  obtain⟨av,cv,rfl,-⟩:=id m
  have af:(xs.map It.pc).length=xs.length:=List.length_map _
  rw[af]at ab m
  show LeavesInM _ _ _ _ _ _ ({target:=.collected D,args:=#[]}::ot (w.heap.size+2)) _ _
  refine j5 (by simp) (run_takeDeferred G) (uD (L:=w.heap.size+2) n p rfl rfl rfl ⟨(World.putObj_heap_other (by omega)).trans ab,(World.putObj_heap_other (by omega)).trans al,(World.putObj_heap_other (by omega)).trans an⟩ ?_)
  intro w' be
  have bd:(W.putObj D (.deferred none)).heap.size=W.heap.size:=by simp[World.putObj]
  exact r9 (n:=n) (L:=w.heap.size+2) (by omega) aH.out (by omega) hD aF o ((Off.putObj (S:=λb=>b<W.heap.size/\b≠w.heap.size+2/\b≠w.heap.size+2+1/\b≠w.heap.size+2+2/\b≠D) _ (λh=>h.2.2.2.2 rfl)).trans (be.mono λb E=>⟨by rw[bd];exact E.1,E.2.2.1,E.2.2.2.1⟩)) m af (by rw[ao];unfold tm;rw[ap])
attribute [local go_sem ↓] Go.wp_at_zero Go.wp_at_succ
def w1S:ByteArray:=⟨#[97,123,123,114,97,110,103,101,32,46,108,125,125,123,123,46,125,125,123,123,101,108,115,101,125,125,110,111,110,101,123,123,101,110,100,125,125]⟩
def w2S:ByteArray:=⟨#[123,123,46,120,125,125]⟩
def w1T:Tm:=⟨.cons (ga 0 [97]) .nil .nil (.cons (ip 4 1 false [[108]]) (.cons (jv 13 false []) .nil .nil .nil) (.cons (ga 26 [110,111,110,101]) .nil .nil .nil) .nil),[]⟩
def w2T:Tm:=⟨.cons (jv 0 false [[120]]) .nil .nil .nil,[]⟩
theorem uw:jr (λ_=>none) (bl w1S)=.ok w1T:=by kernel_rfl
theorem uu:jr (λ_=>none) (bl w2S)=.ok w2T:=by kernel_rfl
theorem uv:Lib.validD (bl w1S)=true:=by kernel_rfl
theorem ut:Lib.validD (bl w2S)=true:=by kernel_rfl
theorem An:TmZ w1T:=by
 have e:∀h:Hd,h∈[ga 0 [97],ip 4 1 false [[108]],jv 13 false [],ga 26 [110,111,110,101]]->h.sm:=by
  intro h m
  simp only[List.mem_cons,List.mem_nil_iff,or_false]at m
  rcases m with rfl | rfl | rfl | rfl <;> exact⟨by decide,by decide,by decide,by decide,by decide⟩
 refine⟨?_,?_,?_,?_,?_⟩
 · exact⟨e _ (by simp),trivial,trivial,e _ (by simp),⟨e _ (by simp),trivial,trivial,trivial⟩,⟨e _ (by simp),trivial,trivial,trivial⟩,trivial⟩
 · intro d o
   simp[w1T]at o
 · simp[w1T,Pt.cnt]
 · simp[w1T]
 · have:w1T.src.length=37:=by kernel_rfl
   omega
theorem Af:TmZ w2T:=by
 refine⟨?_,?_,?_,?_,?_⟩
 · exact⟨⟨by decide,by decide,by decide,by decide,by decide⟩,trivial,trivial,trivial⟩
 · intro d m
   simp[w2T]at m
 · simp[w2T,Pt.cnt]
 · simp[w2T]
 · have:w2T.src.length=6:=by kernel_rfl
   omega
def wI (n:Int):Vh:=⟨3,false,n,0,⟨#[]⟩,[]⟩
def w1V:Va:=⟨⟨7,false,0,0,⟨#[]⟩,[⟨#[108]⟩]⟩,.cons ⟨6,false,0,0,⟨#[]⟩,[]⟩ (.cons (wI 1) .nil (.cons (wI 2) .nil .nil)) .nil⟩
def w2V:Va:=⟨wI 0,.nil⟩
theorem wC (n:Int)(h: -9223372036854775808<=n)(k:n<=9223372036854775807):(wI n).sm:=⟨(by decide:3<256),h,k,(by decide:0<18446744073709551616),(by decide:(⟨#[]⟩:ByteArray).size<=16777216),(by decide:([]:List ByteArray).length<=16777216),λn m=>by cases m⟩
theorem vG:Va.sm w1V:=⟨⟨by decide,by decide,by decide,by decide,by decide,by decide,λn m=>by rw[List.mem_singleton.1 m];decide⟩,⟨⟨by decide,by decide,by decide,by decide,by decide,by decide,λn m=>by cases m⟩,⟨wC 1 (by decide) (by decide),trivial,wC 2 (by decide) (by decide),trivial,trivial⟩,trivial⟩,by decide⟩
theorem yr:Va.sm w2V:=⟨wC 0 (by decide) (by decide),trivial,by decide⟩
theorem yq:Ev.runT w1T w1V 100 0=([⟨0,false,fS,mkB [97]⟩,⟨13,true,⟨wI 1,.nil⟩,.empty⟩,⟨13,true,⟨wI 2,.nil⟩,.empty⟩],0,0):=by kernel_rfl
theorem yp:Ev.runT w1T w1V 4 0=([⟨0,false,fS,mkB [97]⟩,⟨13,true,⟨wI 1,.nil⟩,.empty⟩],202,1):=by kernel_rfl
theorem yo:Ev.runT w2T w1V 9 0=([],200,0):=by kernel_rfl
theorem yn:Ev.runT w2T w2V 9 0=([],201,0):=by kernel_rfl
theorem qS {w w':World}{e:Ending}(h:vT ([⟨0,false,fS,mkB [97]⟩,⟨13,true,⟨wI 1,.nil⟩,.empty⟩,⟨13,true,⟨wI 2,.nil⟩,.empty⟩],0,0) w e w'):
 Below w.heap.size w w'/\∃b o c,e=.returned (.tuple #[.slice (some ⟨b,o,none⟩) 3 c,.int .i64 0,.int .i64 0])/\3<=c/\b<w'.heap.size/\w'.cell? ⟨b,o+2,none⟩=some (.string ⟨#[97]⟩)/\w'.cell? ⟨b,o+20+1,none⟩=some (.bool true)/\w'.cell? ⟨b,o+20+3+2,none⟩=some (.int .i64 2):=by
 obtain⟨K,a,c,rfl,O,N,E,J,M,I⟩:=h
 cases E
 obtain⟨b,o,rfl,G,⟨-,-,A⟩,-,-,-,⟨-,r,-⟩,⟨⟨-,-,m,-⟩,-⟩,-⟩:=I (by simp)
 exact⟨K,b,o,c,rfl,J,G.2.1,A,r,m⟩
theorem yt (N:Nat)(W:World)(r:W.heap[N+1]? =some (.cells #[.string ⟨#[108]⟩] 9 (0,0)))(o:W.heap[N+2]? =some (.cells #[.int .u8 3,.bool false,.int .i64 1,.int .u64 0,.string ⟨#[]⟩,.slice none 0 0,.slice none 0 0,.int .u8 3,.bool false,.int .i64 2,.int .u64 0,.string ⟨#[]⟩,.slice none 0 0,.slice none 0 0] 31 (0,0)))(m:W.heap[N+3]? =some (.cells #[.int .u8 6,.bool false,.int .i64 0,.int .u64 0,.string ⟨#[]⟩,.slice none 0 0,.slice (some ⟨N+2,0,none⟩) 2 2] 31 (0,0))):
 fu (·<W.heap.size) W w1V (some ⟨N+1,0,none⟩) 1 (some ⟨N+3,0,none⟩) 1:=by
 have c1:=λj=>dW r j
 have c2:=λj=>dW o j
 have c3:=λj=>dW m j
 refine⟨⟨_,_,rfl,AG _,by decide,λ_=>⟨N+1,0,rfl,dX r,λi s A=> ?_⟩⟩,⟨_,_,rfl,AG _,by decide,λ_=>⟨N+3,0,rfl,dX m,
  ⟨⟨c3 0,c3 1,c3 2,c3 3,c3 4,_,c3 5,Strs.nil _ _⟩,⟨_,_,c3 6,AG _,by decide,λ_=>⟨N+2,0,rfl,dX o,
    ⟨⟨c2 0,c2 1,c2 2,c2 3,c2 4,_,c2 5,Strs.nil _ _⟩,⟨_,_,c2 6,AG _,by decide,λh=>absurd rfl h⟩,
     ⟨⟨c2 7,c2 8,c2 9,c2 10,c2 11,_,c2 12,Strs.nil _ _⟩,⟨_,_,c2 13,AG _,by decide,λh=>absurd rfl h⟩,trivial⟩⟩⟩⟩,trivial⟩⟩⟩⟩
 cases i with
 | zero=>
   obtain rfl:(⟨#[108]⟩:ByteArray)=s:=by simpa[w1V]using A
   exact c1 0
 | succ i=>simp[w1V]at A
theorem oT (w:World)(hg:Gd w):Calls Tryz.prog 8 #[] w λe w'=>e=.returned (.bool true)/\Below w.heap.size w w':=by
 have aC:Hid (∀W,Below w.heap.size w W->Calls Tryz.prog 26 #[.string w1S] W (qG W (.ok w1T))):=λW G=>by
  have:=lV (λ_=>none) w1S (by decide) uv rfl W (hg.below G);rwa[uw]at this
 have aB:Hid (∀W,Below w.heap.size w W->Calls Tryz.prog 26 #[.string w2S] W (qG W (.ok w2T))):=λW G=>by
  have:=lV (λ_=>none) w2S (by decide) ut rfl W (hg.below G);rwa[uu]at this
 have GW:Hid (∀W,Below w.heap.size w W->Gd W):=λW G=>hg.below G
 unfold w1S at aC
 unfold w2S at aB
 clear hg
 go_enter Tryz.func8,Tryz.ntmps8
 go_wp2_with fail
 refine(aC.out _ (AH _ _)).mono ?_
 rintro e w1 ⟨aA,vm,vd,rfl,ah,ai⟩
 obtain⟨am,cm,rfl,-⟩:=id ah
 obtain⟨ad,cd,rfl,-⟩:=id ai
 have aL:=AF aA
 have aD:=AF ah
 have aE:=AF ai
 clear aA ah ai
 have HT:Hid (∀W0,(((((w1.alloc (.cells #[.slice am w1T.main.len cm,.slice ad w1T.defs.length cd] 25)).alloc (.cells #[.string ⟨#[108]⟩] 9)).alloc (.cells #[.int .u8 3,.bool false,.int .i64 1,.int .u64 0,.string ⟨#[]⟩,.slice none 0 0,.slice none 0 0,.int .u8 3,.bool false,.int .i64 2,.int .u64 0,.string ⟨#[]⟩,.slice none 0 0,.slice none 0 0] 31)).alloc (.cells #[.int .u8 6,.bool false,.int .i64 0,.int .u64 0,.string ⟨#[]⟩,.slice none 0 0,.slice (some ⟨w1.heap.size+2,0,none⟩) 2 2] 31)).alloc (.cells #[.int .u8 7,.bool false,.int .i64 0,.int .u64 0,.string ⟨#[]⟩,.slice (some ⟨w1.heap.size+1,0,none⟩) 1 1,.slice (some ⟨w1.heap.size+3,0,none⟩) 1 1] 31))=W0->Below w1.heap.size w1 W0/\W0.heap.size=w1.heap.size+5/\W0.heap[w1.heap.size]? =some (.cells #[.slice am w1T.main.len cm,.slice ad w1T.defs.length cd] 25 (0,0))/\W0.heap[w1.heap.size+4]? =some (.cells #[.int .u8 7,.bool false,.int .i64 0,.int .u64 0,.string ⟨#[]⟩,.slice (some ⟨w1.heap.size+1,0,none⟩) 1 1,.slice (some ⟨w1.heap.size+3,0,none⟩) 1 1] 31 (0,0))/\fu (·<W0.heap.size) W0 w1V (some ⟨w1.heap.size+1,0,none⟩) 1 (some ⟨w1.heap.size+3,0,none⟩) 1):=by
  rintro W0 rfl
  have n0:=heap_alloc_new w1 (.cells #[.slice am w1T.main.len cm,.slice ad w1T.defs.length cd] 25)
  have n1:=heap_alloc_new (w1.alloc (.cells #[.slice am w1T.main.len cm,.slice ad w1T.defs.length cd] 25)) (.cells #[.string ⟨#[108]⟩] 9)
  have n2:=heap_alloc_new ((w1.alloc (.cells #[.slice am w1T.main.len cm,.slice ad w1T.defs.length cd] 25)).alloc (.cells #[.string ⟨#[108]⟩] 9)) (.cells #[.int .u8 3,.bool false,.int .i64 1,.int .u64 0,.string ⟨#[]⟩,.slice none 0 0,.slice none 0 0,.int .u8 3,.bool false,.int .i64 2,.int .u64 0,.string ⟨#[]⟩,.slice none 0 0,.slice none 0 0] 31)
  have n3:=heap_alloc_new (((w1.alloc (.cells #[.slice am w1T.main.len cm,.slice ad w1T.defs.length cd] 25)).alloc (.cells #[.string ⟨#[108]⟩] 9)).alloc (.cells #[.int .u8 3,.bool false,.int .i64 1,.int .u64 0,.string ⟨#[]⟩,.slice none 0 0,.slice none 0 0,.int .u8 3,.bool false,.int .i64 2,.int .u64 0,.string ⟨#[]⟩,.slice none 0 0,.slice none 0 0] 31)) (.cells #[.int .u8 6,.bool false,.int .i64 0,.int .u64 0,.string ⟨#[]⟩,.slice none 0 0,.slice (some ⟨w1.heap.size+2,0,none⟩) 2 2] 31)
  have n4:=heap_alloc_new ((((w1.alloc (.cells #[.slice am w1T.main.len cm,.slice ad w1T.defs.length cd] 25)).alloc (.cells #[.string ⟨#[108]⟩] 9)).alloc (.cells #[.int .u8 3,.bool false,.int .i64 1,.int .u64 0,.string ⟨#[]⟩,.slice none 0 0,.slice none 0 0,.int .u8 3,.bool false,.int .i64 2,.int .u64 0,.string ⟨#[]⟩,.slice none 0 0,.slice none 0 0] 31)).alloc (.cells #[.int .u8 6,.bool false,.int .i64 0,.int .u64 0,.string ⟨#[]⟩,.slice none 0 0,.slice (some ⟨w1.heap.size+2,0,none⟩) 2 2] 31)) (.cells #[.int .u8 7,.bool false,.int .i64 0,.int .u64 0,.string ⟨#[]⟩,.slice (some ⟨w1.heap.size+1,0,none⟩) 1 1,.slice (some ⟨w1.heap.size+3,0,none⟩) 1 1] 31)
  simp only[World.size_alloc,Nat.add_assoc,Nat.reduceAdd]at n1 n2 n3 n4
  refine⟨(((((AH _ w1).alloc (AG _) _).alloc (by simp) _).alloc (by simp <;> omega) _).alloc (by simp <;> omega) _).alloc (by simp <;> omega) _,by simp,?_,n4,yt _ _ ?_ ?_ ?_⟩
  · exact(Below.heap_alloc _ _ _ (by simp <;> omega)).trans ((Below.heap_alloc _ _ _ (by simp <;> omega)).trans ((Below.heap_alloc _ _ _ (by simp <;> omega)).trans ((Below.heap_alloc _ _ _ (by simp)).trans n0)))
  · exact(Below.heap_alloc _ _ _ (by simp <;> omega)).trans ((Below.heap_alloc _ _ _ (by simp <;> omega)).trans ((Below.heap_alloc _ _ _ (by simp)).trans n1))
  · exact(Below.heap_alloc _ _ _ (by simp <;> omega)).trans ((Below.heap_alloc _ _ _ (by simp)).trans n2)
  · exact(Below.heap_alloc _ _ _ (by simp)).trans n3
 go_wp2_with fail
 try simp only[Nat.add_assoc,Nat.reduceAdd]
 generalize ao:World.alloc (World.alloc (World.alloc (World.alloc (World.alloc w1 _) _) _) _) _=w2 at*
 obtain⟨ag,aV,aw,av,V⟩:=HT.out w2 rfl
 clear ao HT
 have r:Hid (Below w.heap.size w w2):=aL.out.trans (ag.mono aL.out.size)
 have aO:=AF aw
 have aN:=AF av
 have RC:Hid (∀W f,Below w2.heap.size w2 W->Calls Tryz.prog 12 #[.agg #[.slice am w1T.main.len cm,.slice ad w1T.defs.length cd],.agg #[.int .u8 7,.bool false,.int .i64 0,.int .u64 0,.string ⟨#[]⟩,.slice (some ⟨w1.heap.size+1,0,none⟩) 1 1,.slice (some ⟨w1.heap.size+3,0,none⟩) 1 1],.int .i64 f,.int .i64 0] W (vT (Ev.runT w1T w1V f 0) W)):=λW f G=>by
  have hk:∀b,b<w2.heap.size->b<W.heap.size:=λb m=>AI m G.size
  exact jm w1T An w1V vG f 0 am ad _ _ cm cd 1 1 W (GW.out _ (r.out.trans (G.mono r.out.size))) ((aD.out.kept (λb m=>(G.block b (by omega)).trans (ag.block b m.2))).mono λb m=>hk b (by omega)) ((aE.out.kept (λb m=>(G.block b (by omega)).trans (ag.block b m.2))).mono λb m=>hk b (by omega)) ((V.kept (λb m=>G.block b m)).mono hk)
 have RV:Hid (∀W vm vd,Below w2.heap.size w2 W->d8 (·<W.heap.size) W vm w2T.main->fU (·<W.heap.size) W vd w2T.defs->Calls Tryz.prog 12 #[.agg #[vm,vd],.agg #[.int .u8 7,.bool false,.int .i64 0,.int .u64 0,.string ⟨#[]⟩,.slice (some ⟨w1.heap.size+1,0,none⟩) 1 1,.slice (some ⟨w1.heap.size+3,0,none⟩) 1 1],.int .i64 9,.int .i64 0] W (vT (Ev.runT w2T w1V 9 0) W)):=λW vm vd G hm hd=>by
  have hk:∀b,b<w2.heap.size->b<W.heap.size:=λb m=>AI m G.size
  obtain⟨a,c,rfl,-⟩:=id hm
  obtain⟨a',c',rfl,-⟩:=id hd
  exact jm w2T Af w1V vG 9 0 a a' _ _ c c' 1 1 W (GW.out _ (r.out.trans (G.mono r.out.size))) hm hd ((V.kept (λb m=>G.block b m)).mono hk)
 have RU:Hid (∀W vm vd,Below w2.heap.size w2 W->d8 (·<W.heap.size) W vm w2T.main->fU (·<W.heap.size) W vd w2T.defs->Calls Tryz.prog 12 #[.agg #[vm,vd],.agg #[.int .u8 3,.bool false,.int .i64 0,.int .u64 0,.string ⟨#[]⟩,.slice none 0 0,.slice none 0 0],.int .i64 9,.int .i64 0] W (vT (Ev.runT w2T w2V 9 0) W)):=λW vm vd G hm hd=>by
  obtain⟨a,c,rfl,-⟩:=id hm
  obtain⟨a',c',rfl,-⟩:=id hd
  exact jm w2T Af w2V yr 9 0 a a' none none c c' 0 0 W (GW.out _ (r.out.trans (G.mono r.out.size))) hm hd ⟨Strs.nil _ _,gb.nil _ _⟩
 clear ag aw av V aD aE
 refine(RC.out w2 100 (AH _ _)).mono ?_
 rintro e M aj
 rw[yq]at aj
 obtain⟨Y,b,o,c,rfl,aW,al,k1,k2,k3⟩:=qS aj
 have au:=AF Y
 have aR:=AF k1
 have aQ:=AF k2
 have aP:=AF k3
 have aH:=AF ((Y.block _ (by omega)).trans aO.out)
 have I:=AF ((Y.block _ (by omega)).trans aN.out)
 have aU:w1.heap.size+5<=M.heap.size:=by have:=Y.size;omega
 clear Y k1 k2 k3 aj
 have t0:M.cell? ⟨w1.heap.size,0,none⟩=some (.slice am w1T.main.len cm):=by rw[dW aH.out];rfl
 have t1:M.cell? ⟨w1.heap.size,1,none⟩=some (.slice ad w1T.defs.length cd):=by rw[dW aH.out];rfl
 have v0:M.cell? ⟨w1.heap.size+4,0,none⟩=some (.int .u8 7):=by rw[dW I.out];rfl
 have v1:M.cell? ⟨w1.heap.size+4,1,none⟩=some (.bool false):=by rw[dW I.out];rfl
 have v2:M.cell? ⟨w1.heap.size+4,2,none⟩=some (.int .i64 0):=by rw[dW I.out];rfl
 have v3:M.cell? ⟨w1.heap.size+4,3,none⟩=some (.int .u64 0):=by rw[dW I.out];rfl
 have v4:M.cell? ⟨w1.heap.size+4,4,none⟩=some (.string ⟨#[]⟩):=by rw[dW I.out];rfl
 have v5:M.cell? ⟨w1.heap.size+4,5,none⟩=some (.slice (some ⟨w1.heap.size+1,0,none⟩) 1 1):=by rw[dW I.out];rfl
 have v6:M.cell? ⟨w1.heap.size+4,6,none⟩=some (.slice (some ⟨w1.heap.size+3,0,none⟩) 1 1):=by rw[dW I.out];rfl
 go_wp2_with fail
 refine(RC.out M 4 au.out).mono ?_
 rintro e w4 az
 rw[yp]at az
 obtain⟨af,a4,c4,rfl,-⟩:=az
 have ab:=AF af
 have ar:=AF (au.out.trans (af.mono au.out.size))
 have aM:=AF ((af.block _ (by omega)).trans I.out)
 clear af t0 t1 v0 v1 v2 v3 v4 v5 v6
 go_wp2_with fail
 refine(aB.out _ (r.out.trans (ar.out.mono r.out.size))).mono ?_
 rintro e E ⟨ae,QM,QD,rfl,ak,hd5⟩
 obtain⟨R,N,rfl,-⟩:=id ak
 obtain⟨U,O,rfl,-⟩:=id hd5
 have aa:=AF (ab.out.trans (ae.mono ab.out.size))
 have aK:=AF (ar.out.trans (ae.mono ar.out.size))
 have J:=AF ((ae.block _ (by have:=ab.out.size;omega)).trans aM.out)
 have aI:=AF ak
 have aJ:=AF hd5
 have aT:w1.heap.size+4<E.heap.size:=by have:=aa.out.size;omega
 clear ae ak hd5
 have v0:E.cell? ⟨w1.heap.size+4,0,none⟩=some (.int .u8 7):=by rw[dW J.out];rfl
 have v1:E.cell? ⟨w1.heap.size+4,1,none⟩=some (.bool false):=by rw[dW J.out];rfl
 have v2:E.cell? ⟨w1.heap.size+4,2,none⟩=some (.int .i64 0):=by rw[dW J.out];rfl
 have v3:E.cell? ⟨w1.heap.size+4,3,none⟩=some (.int .u64 0):=by rw[dW J.out];rfl
 have v4:E.cell? ⟨w1.heap.size+4,4,none⟩=some (.string ⟨#[]⟩):=by rw[dW J.out];rfl
 have v5:E.cell? ⟨w1.heap.size+4,5,none⟩=some (.slice (some ⟨w1.heap.size+1,0,none⟩) 1 1):=by rw[dW J.out];rfl
 have v6:E.cell? ⟨w1.heap.size+4,6,none⟩=some (.slice (some ⟨w1.heap.size+3,0,none⟩) 1 1):=by rw[dW J.out];rfl
 have K:Hid (Below E.heap.size E (E.alloc (.cells #[.slice R w2T.main.len N,.slice U w2T.defs.length O] 25))):=(AH _ E).alloc (AG _) _
 have aG:Hid ((E.alloc (.cells #[.slice R w2T.main.len N,.slice U w2T.defs.length O] 25)).heap[E.heap.size]? =some (.cells #[.slice R w2T.main.len N,.slice U w2T.defs.length O] 25 (0,0))):=heap_alloc_new E _
 go_wp2_with fail
 generalize ao:World.alloc E _=w6 at*
 clear ao v0 v1 v2 v3 v4 v5 v6
 have aq:=AF (aK.out.trans (K.out.mono aK.out.size))
 refine(RV.out w6 (.slice R w2T.main.len N) (.slice U w2T.defs.length O) aq.out ((aI.out.kept (λb m=>K.out.block b m.2)).mono λb m=>by have:=K.out.size;omega) ((aJ.out.kept (λb m=>K.out.block b m.2)).mono λb m=>by have:=K.out.size;omega)).mono ?_
 rintro e w7 ay
 rw[yo]at ay
 obtain⟨ac,a7,c7,rfl,-⟩:=ay
 have A:=AF (K.out.trans (ac.mono K.out.size))
 have ap:=AF (aq.out.trans (ac.mono aq.out.size))
 have aF:=AF ((ac.block _ (dX aG.out)).trans aG.out)
 clear ac
 have t0:w7.cell? ⟨E.heap.size,0,none⟩=some (.slice R w2T.main.len N):=by rw[dW aF.out];rfl
 have t1:w7.cell? ⟨E.heap.size,1,none⟩=some (.slice U w2T.defs.length O):=by rw[dW aF.out];rfl
 go_wp2_with fail
 refine(RU.out w7 (.slice R w2T.main.len N) (.slice U w2T.defs.length O) ap.out ((aI.out.kept (λb m=>A.out.block b m.2)).mono λb m=>by have:=A.out.size;omega) ((aJ.out.kept (λb m=>A.out.block b m.2)).mono λb m=>by have:=A.out.size;omega)).mono ?_
 rintro e w8 ax
 rw[yn]at ax
 obtain⟨an,a8,c8,rfl,-⟩:=ax
 have Z:Hid (Below M.heap.size M w8):=aa.out.trans ((A.out.trans (an.mono A.out.size)).mono aa.out.size)
 have aS:Hid (Below w.heap.size w w8):=r.out.trans ((ap.out.trans (an.mono ap.out.size)).mono r.out.size)
 clear an t0 t1
 have k1:=(Z.out.cell (p:=⟨b,_,none⟩) al).trans aR.out
 have k2:=(Z.out.cell (p:=⟨b,_,none⟩) al).trans aQ.out
 have k3:=(Z.out.cell (p:=⟨b,_,none⟩) al).trans aP.out
 dsimp only[List.length_cons,List.length_nil]
 go_wp2_with fail
 go_ret
 exact⟨rfl,aS.out⟩
end Go.Proofs.YtepcpgdfbaklfaaGreatDoor
