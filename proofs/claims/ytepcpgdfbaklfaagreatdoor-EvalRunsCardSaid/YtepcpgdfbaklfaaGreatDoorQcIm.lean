/- The contract of lacunaref20.Run: the pieces, the error and its place as runT says. The condition: the sizes of the template and of the value. -/
import Derived.Test.YtepcpgdfbaklfaaGreatDoorIfQ
import Derived.Test.YtepcpgdfbaklfaaGreatDoorQcTp0
import Derived.Test.YtepcpgdfbaklfaaGreatDoorQcG9
import Derived.Test.YtepcpgdfbaklfaaGreatDoorQcIg
import Derived.Test.YtepcpgdfbaklfaaGreatDoorQcTby
import Derived.Test.YtepcpgdfbaklfaaGreatDoorQcH4
import Derived.Test.YtepcpgdfbaklfaaGreatDoorQcH8
import Derived.Test.YtepcpgdfbaklfaaGreatDoorQcI4
import Derived.Test.YtepcpgdfbaklfaaGreatDoorQcI8
import Derived.Test.YtepcpgdfbaklfaaGreatDoorQcTc1
import Derived.Test.YtepcpgdfbaklfaaGreatDoorQcTs0
set_option maxRecDepth 100000
set_option maxHeartbeats 40000000
set_option linter.unusedSimpArgs false
set_option linter.unusedVariables false
namespace Go.Proofs.YtepcpgdfbaklfaaGreatDoor
open Go.RowKit Go.Shelf Ev
attribute [local go_sem ↓] Go.wp_at_zero Go.wp_at_succ
theorem gH {x:Pt}(h:x.isNil=true):x=.nil:=by cases x with | nil=>rfl | cons=>cases h
theorem kZ:∀(l:Pt) (fr:Bool),l.form fr=true->kp l
 | .nil,_,_=>trivial
 | .cons h k e r,fr,E=>by
   simp only[Pt.form,Bool.and_eq_true]at E
   obtain⟨⟨m,A⟩,I⟩:=E
   have o:=kZ r fr I
   unfold gj at m
   split at m
   · simp only[Bool.and_eq_true]at m
     obtain rfl:=gH m.1.2
     obtain rfl:=gH m.2
     exact⟨by omega,trivial,trivial,o⟩
   split at m
   · simp only[Bool.and_eq_true]at m
     obtain rfl:=gH m.1.2
     obtain rfl:=gH m.2
     exact⟨by omega,trivial,trivial,o⟩
   split at m
   · rename_i G
     rw[if_pos G,Bool.and_eq_true]at A
     exact⟨by omega,kZ k false A.1,kZ e false A.2,o⟩
   split at m
   · simp only[Bool.and_eq_true]at m
     obtain rfl:=gH m.1.2
     obtain rfl:=gH m.2
     exact⟨by omega,trivial,trivial,o⟩
   · cases m
def zz (r:List Pc×Nat×Int)(w:World)(e:Ending)(w':World):Prop:=
 Below w.heap.size w w'/\∃a c,e=.returned (.tuple #[.slice a r.1.length c,.int .i64 (r.2.1:Nat),.int .i64 r.2.2])/\Pcs (·<w'.heap.size) w' (.slice a r.1.length c) r.1
theorem qH.pcs {M:Nat}{w:World}{v:Value}{l:List Pc}(h:qH M w v l)(O:M<w.heap.size):Pcs (·<w.heap.size) w v l:=by
 obtain⟨cs,N,m⟩:=h
 obtain⟨a,c,rfl,A,r,o⟩:=fd N
 refine⟨a,c,rfl,A,r,λE=> ?_⟩
 obtain⟨g,rfl,hB,I,J⟩:=o (by
  intro e
  subst e
  have:=fQ.len _ _ m
  rw[List.length_nil]at this
  exact E (List.length_eq_zero_iff.1 (by omega)))
 exact⟨g,0,rfl,I,fQ.row _ cs g 0 (fQ.mono (λb K=>by have:b<M:=K;show b<_;omega) _ _ m) (λj u G=>by rw[Nat.zero_add];exact J j u G)⟩
theorem xz (r:Ev.Rs):tm r=(r.out,erN r,erP r):=by
 unfold tm erN erP
 split <;> simp_all
theorem qQ (t:Tm)(hz:TmZ t)(v:Va)(Z:Va.sm v)(fuel calls:Int)(K Y a1 a2:Option Addr)(J V c1 c2:Nat)(w:World)(hp:d8 (·<w.heap.size) w (.slice K t.main.len J) t.main)(hd:fU (·<w.heap.size) w (.slice Y t.defs.length V) t.defs)(hv:fu (·<w.heap.size) w v a1 c1 a2 c2):
 Calls Tryz.prog 16 #[.agg #[.slice K t.main.len J,.slice Y t.defs.length V],.agg #[.int .u8 (v.h.kind:Nat),.bool v.h.b,.int .i64 v.h.n,.int .u64 (v.h.bits:Nat),.string v.h.text,.slice a1 v.h.keys.length c1,.slice a2 v.items.len c2],.int .i64 fuel,.int .i64 calls] w (zz (Ev.runT t v fuel calls) w):=by
 have CC:Hid (∀W,Below w.heap.size w W->Calls Tryz.prog 34 #[.agg #[.slice K t.main.len J,.slice Y t.defs.length V]] W (mt t W)):=λW hW=>
  ox t hz _ _ W ((hp.kept (eL.of_below hW)).mono (λb hb=>AI hb hW.size)) ((hd.kept (eL.of_below hW)).mono (λb hb=>AI hb hW.size))
 have JC:Hid (∀W,Below w.heap.size w W->Calls Tryz.prog 35 #[.agg #[.int .u8 (v.h.kind:Nat),.bool v.h.b,.int .i64 v.h.n,.int .u64 (v.h.bits:Nat),.string v.h.text,.slice a1 v.h.keys.length c1,.slice a2 v.items.len c2]] W λe w'=>e=.returned (.int .i64 (jg v:Nat))/\Below W.heap.size W w'):=λW hW=>
  ow ru v Z (·<w.heap.size) a1 a2 c1 c2 W (hv.kept (eL.of_below hW))
 have HZ:=AF hz
 have ap:=AF Z
 have HP:=AF hp
 have HD:=AF hd
 have HV:=AF hv
 clear hz Z hp hd hv
 go_enter Tryz.func16,Tryz.ntmps16
 go_upto_region 1 with(fail)
 generalize G:World.alloc (World.alloc w _) _=w0
 obtain⟨an,aw,M,ai⟩:=qx G
 have au:=AF an
 clear G an
 have aE:=AF M
 have aB:=AF ai
 have t0:w0.cell? ⟨w.heap.size,0,none⟩=some (.slice K t.main.len J):=by rw[dW M];rfl
 have t1:w0.cell? ⟨w.heap.size,1,none⟩=some (.slice Y t.defs.length V):=by rw[dW M];rfl
 clear M ai
 go_wp2_with fail
 refine(CC.out _ au.out).mono ?_
 rintro e w1 ⟨rfl,E⟩
 have ag:Hid (Below w.heap.size w w1):=au.out.trans (E.mono (by omega))
 have ao:=AF ((E.block _ (by omega)).trans aB.out)
 have aD:=AF ((E.block _ (by omega)).trans aE.out)
 have av:w.heap.size+2<=w1.heap.size:=by have:=E.size;omega
 clear E t0 t1 aw
 by_cases o:t.check=0
 rotate_left
 · have m:((t.check:Int)!=0)=true:=by
    have:((t.check:Int)==0)=false:=beq_eq_false_iff_ne.2 (by omega)
    simp only[bne,this];rfl
   have I:Hid (Ev.runT t v fuel calls=([],t.check,0)):=by unfold Hid Ev.runT;rw[if_pos o]
   clear o
   have hR:zz (Ev.runT t v fuel calls) w (.returned (.tuple #[.slice none 0 0,.int .i64 (t.check:Nat),.int .i64 0])) w1:=by rw[I.out];exact⟨ag.out,none,0,rfl,Pcs.nil _ _⟩
   replace hR:=AF hR
   go_wp2_with fail
   exact⟨rfl,_,by simp[results,Tryz.results16,go_sem],hR.out⟩
 have m:((t.check:Int)!=0)=false:=by rw[o];rfl
 have HC:=AF o
 obtain⟨x0,x1,x2,x3,x4,x5,x6⟩:=fR (h:=v.h) ao.out
 rw[o]at m ⊢
 clear o
 go_wp2_with fail
 refine(JC.out _ ag.out).mono ?_
 rintro e w2 ⟨rfl,A⟩
 have U:Hid (Below w.heap.size w w2):=ag.out.trans (A.mono (by omega))
 have aA:=AF ((A.block _ (by omega)).trans ao.out)
 have af:=AF ((A.block _ (by omega)).trans aD.out)
 have aJ:w.heap.size+2<=w2.heap.size:=by have:=A.size;omega
 clear A x0 x1 x2 x3 x4 x5 x6 av m
 by_cases o:jg v=0
 rotate_left
 · have m:((jg v:Int)!=0)=true:=by
    have:((jg v:Int)==0)=false:=beq_eq_false_iff_ne.2 (by omega)
    simp only[bne,this];rfl
   have I:Hid (Ev.runT t v fuel calls=([],jg v,0)):=by unfold Hid Ev.runT;rw[if_neg (by rw[HC.out];simp),if_pos o]
   clear o
   have hR:zz (Ev.runT t v fuel calls) w (.returned (.tuple #[.slice none 0 0,.int .i64 (jg v:Nat),.int .i64 0])) w2:=by rw[I.out];exact⟨U.out,none,0,rfl,Pcs.nil _ _⟩
   replace hR:=AF hR
   go_wp2_with fail
   exact⟨rfl,_,by simp[results,Tryz.results16,go_sem],hR.out⟩
 have m:((jg v:Int)!=0)=false:=by rw[o];rfl
 have I:Hid (Ev.runT t v fuel calls=tm (pY (ff t.defs) (eG 256 calls) t.main v (eG 1000000 fuel))):=by
  unfold Hid Ev.runT
  rw[if_neg (by rw[HC.out];simp),if_neg (by rw[o];simp)]
 rw[o]at m ⊢
 clear o
 have t0:w2.cell? ⟨w.heap.size,0,none⟩=some (.slice K t.main.len J):=by rw[dW af.out];rfl
 have t1:w2.cell? ⟨w.heap.size,1,none⟩=some (.slice Y t.defs.length V):=by rw[dW af.out];rfl
 go_upto_region 8 with(fail)
 generalize G:World.alloc w2 _=w3
 obtain⟨al,aI,aa⟩:=ue G
 have R:=AF al
 clear G t0 t1 m al
 have ac:=iG 1000000 fuel
 have ae:=iG 256 calls
 rw[show((1000000:Nat):Int)=1000000 from rfl]at ac
 rw[show((256:Nat):Int)=256 from rfl]at ae
 rw[ac,ae]at aa
 clear ac ae
 have aK:=iF 1000000 fuel
 have ay:=iF 256 calls
 generalize eG 1000000 fuel=F at*
 generalize eG 256 calls=C at*
 have aF:Hid (MsS w2.heap.size (.slice K t.main.len J) (.slice Y t.defs.length V) C ⟨[],F,none⟩ w3):=⟨.slice none 0 0,⟨[],World.ownsRow_nil _ _ _ _,rfl⟩,aa⟩
 have az:=AF ((R.out.block _ (by omega)).trans aA.out)
 have aC:=AF ((R.out.block _ (by omega)).trans af.out)
 have ar:Hid (Calls Tryz.prog 36 #[.pointer (some ⟨w2.heap.size,0,none⟩),.slice K t.main.len J,.agg #[.int .u8 (v.h.kind:Nat),.bool v.h.b,.int .i64 v.h.n,.int .u64 (v.h.bits:Nat),.string v.h.text,.slice a1 v.h.keys.length c1,.slice a2 v.items.len c2],.agg #[.int .u8 (v.h.kind:Nat),.bool v.h.b,.int .i64 v.h.n,.int .u64 (v.h.bits:Nat),.string v.h.text,.slice a1 v.h.keys.length c1,.slice a2 v.items.len c2],.int .i64 0] w3
  λe w'=>e=.returned (.tuple #[])/\Kt w2.heap.size w3 w'/\MsS w2.heap.size (.slice K t.main.len J) (.slice Y t.defs.length V) C (pY (ff t.defs) C t.main v F) w'):=by
  have O:∀b,b<w.heap.size->w3.heap[b]? =w.heap[b]? :=λb hb=>(R.out.block b (by omega)).trans (U.out.block b hb)
  have N:∀b,b<w.heap.size->b<w2.heap.size:=λb hb=>by omega
  obtain⟨q1,q2,-,-,q5,-⟩:=qv t HC.out
  have aH:=HZ.out.sum
  exact vL w2.heap.size _ Y V t.defs HZ.out.len q5 (λd hd=>⟨⟨(HZ.out.defs d hd).2,kZ _ _ (q2 d hd).2⟩,by have:=iX hd;omega⟩) C ay F t.main v v 0 ⟨[],F,none⟩ w3 K a1 a2 a1 a2 J c1 c2 c1 c2
   ⟨AG _,by show 0+F<=1000000;omega,λp h=>by cases h⟩ (Nat.zero_le _) ⟨HZ.out.main,kZ _ _ q1⟩ (by omega) (by omega) aF.out ((HD.out.kept O).mono N) ap.out ap.out ((HV.out.kept O).mono N) ((HV.out.kept O).mono N) ((HP.out.kept O).mono N)
 clear aa
 obtain⟨x0,x1,x2,x3,x4,x5,x6⟩:=fR (h:=v.h) az.out
 have t0:w3.cell? ⟨w.heap.size,0,none⟩=some (.slice K t.main.len J):=by rw[dW aC.out];rfl
 go_wp2_with fail
 refine ar.out.mono ?_
 rintro e w4 ⟨rfl,ab,ak⟩
 obtain⟨r,hr⟩:∃r,pY (ff t.defs) C t.main v F=r:=⟨_,rfl⟩
 rw[hr]at ak
 have HQ:=AF hr
 clear ar hr x0 x1 x2 x3 x4 x5 x6 t0
 obtain⟨vo,ah,aj⟩:=ak
 have aG:Hid (Below w.heap.size w w4):=U.out.trans ((R.out.trans ab.1).mono U.out.size)
 have ax:w2.heap.size<w4.heap.size:=by have:=ab.1.size;omega
 have aq:=AF (ah.pcs ax)
 obtain⟨a,c,rfl,-⟩:=id aq.out
 obtain⟨-,-,m2,-,-,m5,m6,-⟩:=aj.cs
 have HR:Hid (∀nq,zz (Ev.runT t v fuel calls) w (.returned (.tuple #[.slice a r.out.length c,.int .i64 (erN r:Nat),.int .i64 (erP r)])) (w4.drewN nq)):=λnq=>by
  rw[I.out,HQ.out,xz]
  exact⟨ei aG.out _,a,c,rfl,aq.out.kept (w':=w4.drewN nq) λb _=>rfl⟩
 clear ah aj ab
 go_wp2_with fail
 go_quiet (fail)
 go_wp2_with fail
 exact⟨rfl,_,by simp[results,Tryz.results16,go_sem],HR.out _⟩
def PcQ (P:Nat->Prop)(w:World):List Pc->Nat->Nat->Prop
 | [],_,_=>True
 | p::r,b,o=>(∃i bb s,w.cell? ⟨b,o,none⟩=some (.int .i64 i)/\w.cell? ⟨b,o+1,none⟩=some (.bool bb)/\w.cell? ⟨b,o+2,none⟩=some (.string s))/\oM P w (.cons p.val.h p.val.items .nil) b (o+3)/\PcQ P w r b (o+10)
theorem PcQ.sq {P:Nat->Prop}{w w':World}(m:Sq P w w'):∀(l:List Pc) (b o:Nat),P b->PcQ P w l b o->PcQ P w' l b o
 | [],_,_,_,_=>trivial
 | p::r,b,o,A,⟨⟨i,bb,s,c0,c1,c2⟩,J,K⟩=>by
   obtain⟨v0,O,q0⟩:=m.cel _ _ _ A c0
   obtain⟨U,N,q1⟩:=m.cel _ _ _ A c1
   obtain⟨R,M,q2⟩:=m.cel _ _ _ A c2
   obtain⟨I,rfl⟩:=q0.int
   obtain⟨G,rfl⟩:=q1.bool
   obtain⟨E,rfl⟩:=q2.string
   exact⟨⟨I,G,E,O,N,M⟩,oM.sq m _ _ _ A J,PcQ.sq m r b _ A K⟩
theorem PcQ.of {P ok:Nat->Prop}{w:World}(m:∀b,ok b->P b/\UnF w b):∀(l:List Pc) (b o:Nat),hH ok w l b o->PcQ P w l b o
 | [],_,_,_=>trivial
 | p::r,b,o,⟨⟨c0,c1,c2⟩,A,E⟩=>⟨⟨_,_,_,c0,c1,c2⟩,oM.of m _ _ _ A,PcQ.of m r b _ E⟩
theorem zE {P:Nat->Prop}{b p:Nat}{w:World}{A:Int}{r:Bool}{o:ByteArray}{K I G:Int}{J:Bool}{E:ByteArray}{a5 Y:Option Addr}{N R M O:Nat}(hB:P b)(q0:w.cell? ⟨b,p,none⟩=some (.int .i64 A))(q1:w.cell? ⟨b,p+1,none⟩=some (.bool r))(q2:w.cell? ⟨b,p+2,none⟩=some (.string o))(c0:w.cell? ⟨b,p+3,none⟩=some (.int .u8 K))(c1:w.cell? ⟨b,p+3+1,none⟩=some (.bool J))(c2:w.cell? ⟨b,p+3+2,none⟩=some (.int .i64 I))(c3:w.cell? ⟨b,p+3+3,none⟩=some (.int .u64 G))(c4:w.cell? ⟨b,p+3+4,none⟩=some (.string E))(c5:w.cell? ⟨b,p+3+5,none⟩=some (.slice a5 N R))(c6:w.cell? ⟨b,p+3+6,none⟩=some (.slice Y M O))(m t2:ByteArray):
 Sq P w ((((((((((w.setCell ⟨b,p,none⟩ (.int .i64 0)).setCell ⟨b,p+1,none⟩ (.bool false)).setCell ⟨b,p+2,none⟩ (.string m)).setCell ⟨b,p+3,none⟩ (.int .u8 0)).setCell ⟨b,p+3+1,none⟩ (.bool false)).setCell ⟨b,p+3+2,none⟩ (.int .i64 0)).setCell ⟨b,p+3+3,none⟩ (.int .u64 0)).setCell ⟨b,p+3+4,none⟩ (.string t2)).setCell ⟨b,p+3+5,none⟩ (.slice none 0 0)).setCell ⟨b,p+3+6,none⟩ (.slice none 0 0)):=by
 have W:=(Sq.refl P w).set hB q0 (u:=.int .i64 0) (.inr (.inl ⟨_,_,0,rfl,rfl⟩))
 have V:=W.set hB ((eH (show p≠p+1 by omega)).trans q1) (u:=.bool false) (.inr (.inr (.inr (.inl ⟨_,_,rfl,rfl⟩))))
 have U:=V.set hB ((eH (show p+1≠p+2 by omega)).trans ((eH (show p≠p+2 by omega)).trans q2)) (u:=.string m) (.inr (.inr (.inl ⟨_,_,rfl,rfl⟩)))
 have far:∀j,((((w.setCell ⟨b,p,none⟩ (.int .i64 0)).setCell ⟨b,p+1,none⟩ (.bool false)).setCell ⟨b,p+2,none⟩ (.string m)).cell? ⟨b,p+3+j,none⟩)=w.cell? ⟨b,p+3+j,none⟩:=λj=>
  (eH (by omega)).trans ((eH (by omega)).trans (eH (by omega)))
 exact Ag U hB ((far 0).trans c0) ((far 1).trans c1) ((far 2).trans c2) ((far 3).trans c3) ((far 4).trans c4) ((far 5).trans c5) ((far 6).trans c6) t2
theorem wE {P:Nat}{a b:Value}{T:TypeId}{fr:Nat×Nat}{w:World}(m:w.heap[P]? =some (.cells #[a,b] T fr)):w.cell? ⟨P,0,none⟩=some a/\w.cell? ⟨P,1,none⟩=some b:=⟨by rw[dW m];rfl,by rw[dW m];rfl⟩
theorem mP (t:Tm)(ht:TmW t)(v:Va)(hv:Va.wf v)(am ad a1 a2:Option Addr)(cm cd c1 c2:Nat)(w:World)(hg:Gd w)(hp:d8 (·<w.heap.size) w (.slice am t.main.len cm) t.main)(hd:fU (·<w.heap.size) w (.slice ad t.defs.length cd) t.defs)(hx:fu (·<w.heap.size) w v a1 c1 a2 c2)(fuel calls:Int):
 Calls Tryz.prog 3 #[.agg #[.slice am t.main.len cm,.slice ad t.defs.length cd],.agg #[.int .u8 (v.h.kind:Nat),.bool v.h.b,.int .i64 v.h.n,.int .u64 (v.h.bits:Nat),.string v.h.text,.slice a1 v.h.keys.length c1,.slice a2 v.items.len c2],.int .i64 fuel,.int .i64 calls] w λe w'=>e=.returned (.bool true)/\Below w.heap.size w w':=by
 have HP:=AF hp
 have HD:=AF hd
 have HX:=AF hx
 have HG:Hid (∀W,Below w.heap.size w W->Gd W):=λW hW=>hg.belowB hg.glB hW
 have br:=AF ht
 have aP:=AF hv
 clear hp hd hx ht hv hg
 go_enter Tryz.func3,Tryz.ntmps3
 go_upto_region 1 with(fail)
 try simp only[Nat.add_assoc,Nat.reduceAdd]
 generalize U:World.alloc (World.alloc w _) _=w0
 obtain⟨bR,cB,bJ,bH⟩:=qx U
 clear U
 have cr:=AF bR
 have cO:=AF bJ
 have cI:=AF bH
 clear bR bJ bH
 go_wp2_with fail
 refine(oT w0 (HG.out w0 cr.out)).mono ?_
 rintro e w1 ⟨rfl,aw⟩
 have aS:Hid (Below w.heap.size w w1):=cr.out.trans (aw.mono (by omega))
 have cA:w.heap.size+2<=w1.heap.size:=by have:=aw.size;omega
 have b0:=AF ((aw.block _ (by omega)).trans cO.out)
 have bX:=AF ((aw.block _ (by omega)).trans cI.out)
 clear aw cB
 obtain⟨t0,t1⟩:=wE b0.out
 obtain⟨v0,v1,v2,v3,v4,v5,v6⟩:=fR (h:=v.h) bX.out
 have aL:w.heap.size<=w1.heap.size:=by omega
 have FC:=AF (th t br.out v aP.out am ad a1 a2 cm cd c1 c2 w1 ((HP.out.kept (eL.of_below aS.out)).mono (λb m=>AI m aL)) ((HD.out.kept (eL.of_below aS.out)).mono (λb m=>AI m aL)) ((HX.out.kept (eL.of_below aS.out)).mono (λb m=>AI m aL)))
 go_wp2_with fail
 refine FC.out.mono ?_
 rintro e w2 ⟨fb,rfl,bQ,ar⟩
 have b6:=AF bQ
 clear bQ FC
 have aC:Hid (Below w.heap.size w w2):=aS.out.trans (ar.mono (by omega))
 have cz:w.heap.size+2<=w2.heap.size:=by have:=ar.size;omega
 have bZ:=AF ((ar.block _ (by omega)).trans b0.out)
 have cH:=AF ((ar.block _ (by omega)).trans bX.out)
 clear ar cA aL t0 t1 v0 v1 v2 v3 v4 v5 v6
 cases fb with
 | true=>
   go_wp2_with fail
   go_ret
   exact⟨rfl,aC.out⟩
 | false=>
 have bK:=b6.out rfl
 have aR:=AF (Va.wf_sm aP.out bK.2)
 have aQ:=AF (yv t br.out (by omega))
 clear bK b6
 by_cases bi:(5000:Int)<fuel
 · have dt:decide ((5000:Int)<fuel)=true:=decide_eq_true bi
   go_wp2_with fail
   go_ret
   exact⟨rfl,aC.out⟩
 have bP:decide ((5000:Int)<fuel)=false:=decide_eq_false bi
 clear bi
 have V:=AF (wN br.out aR.out fuel calls)
 obtain⟨⟨K,ea,pa⟩,bh⟩:∃r,Ev.runT t v fuel calls=r:=⟨_,rfl⟩
 rw[bh]at V
 dsimp only at V
 have b2:=AF bh
 clear bh
 obtain⟨t0,t1⟩:=wE bZ.out
 go_upto_region 7 with(fail)
 clear bP
 have CT:=AF (jA t aQ.out _ _ _ _ w2 (HP.out.kept (eL.of_below aC.out)) (HD.out.kept (eL.of_below aC.out)))
 go_wp2_with fail
 refine CT.out.mono ?_
 rintro e w3 ⟨xm,xd,rfl,bf,bg,aq⟩
 obtain⟨bm,km,rfl,-⟩:=id bf
 obtain⟨bd,kd,rfl,-⟩:=id bg
 have cY:Hid (Below w.heap.size w w3):=aC.out.trans (aq.mono (by omega))
 have dn:w.heap.size+2<=w3.heap.size:=by have:=aq.size;omega
 have bS:=AF bf
 have bT:=AF bg
 have cN:=AF ((aq.block _ (by omega)).trans bZ.out)
 have cG:=AF ((aq.block _ (by omega)).trans cH.out)
 clear aq bf bg cz t0 t1 CT
 go_upto_region 8 with(fail)
 generalize U:World.alloc w3 _=w4
 obtain⟨al,dm,bF⟩:=ue U
 clear U
 have ch:Hid (Below w.heap.size w w4):=cY.out.trans (al.mono (by omega))
 have cM:=AF ((al.block _ (by omega)).trans cN.out)
 have bW:=AF ((al.block _ (by omega)).trans cG.out)
 have cE:=AF bF
 have aX:Hid (d8 (·<w4.heap.size) w4 (.slice bm t.main.len km) t.main):=(bS.out.kept (λb m=>al.block b m.2)).mono λb m=>by have:=m.2;show b<_;omega
 have a6:Hid (fU (·<w4.heap.size) w4 (.slice bd t.defs.length kd) t.defs):=(bT.out.kept (λb m=>al.block b m.2)).mono λb m=>by have:=m.2;show b<_;omega
 clear al bF bS bT
 obtain⟨v0,v1,v2,v3,v4,v5,v6⟩:=fR (h:=v.h) bW.out
 have CV:=AF (lq v _ _ w4 aR.out (HX.out.kept (eL.of_below ch.out)).val)
 go_wp2_with fail
 refine CV.out.mono ?_
 rintro e w5 ⟨n1,m1,n2,m2,rfl,bG,O⟩
 have cX:Hid (Below w.heap.size w w5):=ch.out.trans (O.mono (by omega))
 have dl:w4.heap.size<=w5.heap.size:=O.size
 have bU:Hid (fu (λb=>w4.heap.size<=b/\b<w5.heap.size/\UnF w5 b) w5 v n1 m1 n2 m2):=bG.mono λb m=>by
  obtain⟨h1,h2,h3⟩:=m
  rcases h1 with⟨h,-⟩ | h1
  · cases h
  · exact⟨h1,h2,h3 rfl⟩
 have cL:=AF ((O.block _ (by omega)).trans cM.out)
 have cF:=AF ((O.block _ (by omega)).trans bW.out)
 have cD:=AF ((O.block _ (by omega)).trans cE.out)
 have aW:Hid (d8 (·<w4.heap.size) w5 (.slice bm t.main.len km) t.main):=aX.out.kept (λb m=>O.block b m)
 have aZ:Hid (fU (·<w4.heap.size) w5 (.slice bd t.defs.length kd) t.defs):=a6.out.kept (λb m=>O.block b m)
 clear O bG CV v0 v1 v2 v3 v4 v5 v6 aX a6
 go_upto_region 9 with(fail)
 generalize U:World.alloc w5 _=A
 obtain⟨I,dj,bE⟩:=ue U
 clear U
 have aB:Hid (Below w.heap.size w A):=cX.out.trans (I.mono (by omega))
 have bY:=AF ((I.block _ (by omega)).trans cL.out)
 have bq:=AF ((I.block _ (by omega)).trans cF.out)
 have bp:=AF ((I.block _ (by omega)).trans cD.out)
 have ax:=AF bE
 have aV:Hid (d8 (·<A.heap.size) A (.slice bm t.main.len km) t.main):=(aW.out.kept (λb m=>I.block b (by omega))).mono λb m=>by show b<_;omega
 have aY:Hid (fU (·<A.heap.size) A (.slice bd t.defs.length kd) t.defs):=(aZ.out.kept (λb m=>I.block b (by omega))).mono λb m=>by show b<_;omega
 have aj:Hid (fu (λb=>w4.heap.size<=b/\b<w5.heap.size/\UnF A b) A v n1 m1 n2 m2):=(bU.out.kept (λb m=>I.block b m.2.1)).mono λb m=>⟨m.1,m.2.1,m.2.2.same (I.block b m.2.1)⟩
 clear I bE aW aZ bU
 have RC:Hid (∀W,Below A.heap.size A W->Calls Tryz.prog 12 #[.agg #[.slice bm t.main.len km,.slice bd t.defs.length kd],.agg #[.int .u8 (v.h.kind:Nat),.bool v.h.b,.int .i64 v.h.n,.int .u64 (v.h.bits:Nat),.string v.h.text,.slice n1 v.h.keys.length m1,.slice n2 v.items.len m2],.int .i64 fuel,.int .i64 calls] W (vT (K,ea,pa) W)):=λW hW=>by
  have h:=jm t aQ.out v aR.out fuel calls bm bd n1 n2 km kd m1 m2 W (HG.out W (aB.out.trans (hW.mono (by omega)))) ((aV.out.kept (eL.of_below hW)).mono (λb m=>AI m hW.size)) ((aY.out.kept (eL.of_below hW)).mono (λb m=>AI m hW.size)) ((aj.out.kept (λb m=>hW.block b (by omega))).mono (λb m=>by have:=hW.size;have:=m.2.1;show b<_;omega))
  rwa[b2.out]at h
 obtain⟨t0,t1⟩:=wE bp.out
 obtain⟨v0,v1,v2,v3,v4,v5,v6⟩:=fR (h:=v.h) ax.out
 go_wp2_with fail
 refine(RC.out A (AH _ _)).mono ?_
 rintro e J ⟨bn,aa,ca,rfl,bO⟩
 have cT:Hid (Pcs (λb=>A.heap.size<=b/\b<J.heap.size) J (.slice aa K.length ca) K):=bO.mono λb m=>⟨m.1,m.2.1⟩
 have ac:=AF bn
 have aI:A.heap.size<=J.heap.size:=bn.size
 clear bn bO t0 t1 v0 v1 v2 v3 v4 v5 v6
 dsimp only
 obtain⟨t0,t1⟩:=wE ((ac.out.block _ (by omega)).trans bp.out)
 obtain⟨v0,v1,v2,v3,v4,v5,v6⟩:=fR (h:=v.h) ((ac.out.block _ (by omega)).trans ax.out)
 go_wp2_with fail
 refine(RC.out J ac.out).mono ?_
 rintro e w8 ⟨bk,ab,cb,rfl,bN⟩
 have b4:=AF bN
 have bA:=AF bk
 have cy:J.heap.size<=w8.heap.size:=bk.size
 clear bk bN t0 t1 v0 v1 v2 v3 v4 v5 v6 RC
 dsimp only
 have an:Hid (Below A.heap.size A w8):=ac.out.trans (bA.out.mono aI)
 have bB:Hid (Below w.heap.size w w8):=aB.out.trans (an.out.mono (by omega))
 obtain⟨t0,t1⟩:=wE ((an.out.block _ (by omega)).trans bp.out)
 obtain⟨u0,u1⟩:=wE ((an.out.block _ (by omega)).trans bY.out)
 have ST:=AF (jl t t rfl true (λ_=>rfl) _ _ _ _ _ _ w8 aQ.out (aV.out.kept (eL.of_below an.out)) ((HP.out.kept (eL.of_below bB.out)).mono λb m=>show b<w.heap.size from m) (aY.out.kept (eL.of_below an.out)) (HD.out.kept (eL.of_below bB.out)))
 go_wp2_with fail
 refine ST.out.mono ?_
 rintro e w9 ⟨rfl,aO⟩
 have bz:Hid (Below J.heap.size J w9):=bA.out.trans (aO.mono cy)
 have b7:=AF aO
 have bC:w8.heap.size<=w9.heap.size:=aO.size
 have aE:Hid (Below A.heap.size A w9):=ac.out.trans (bz.out.mono aI)
 have ce:Hid (Below w.heap.size w w9):=aB.out.trans (aE.out.mono (by omega))
 clear aO t0 t1 u0 u1 ST
 obtain⟨v0,v1,v2,v3,v4,v5,v6⟩:=fR (h:=v.h) ((aE.out.block _ (by omega)).trans ax.out)
 obtain⟨u0,u1,u2,u3,u4,u5,u6⟩:=fR (h:=v.h) ((aE.out.block _ (by omega)).trans bq.out)
 have SV:=AF (gu v _ _ _ _ w9 aP.out (aj.out.kept (λb m=>aE.out.block b (by omega))).val (HX.out.kept (eL.of_below ce.out)).val)
 go_wp2_with fail
 refine SV.out.mono ?_
 rintro e E ⟨rfl,ai⟩
 have b8:Hid (Below J.heap.size J E):=bz.out.trans (ai.mono (by omega))
 have aA:Hid (Below w8.heap.size w8 E):=b7.out.trans (ai.mono bC)
 have dc:w8.heap.size<=E.heap.size:=by have:=ai.size;omega
 clear ai SV v0 v1 v2 v3 v4 v5 v6 u0 u1 u2 u3 u4 u5 u6 aE ce bz b7 bC an bB bA
 obtain⟨P,hP⟩:∃P:Nat->Prop,∀b,P b↔(J.heap.size<=b/\b<w8.heap.size):=⟨_,λ_=>Iff.rfl⟩
 have HQ:Hid (K≠[]->∃b o,ab=some ⟨b,o,none⟩/\P b/\UnF E b/\PcQ P E K b o):=λap=>by
  obtain⟨_,_,he,-,-,h3⟩:=b4.out
  cases he
  obtain⟨b,o,rfl,m,hr⟩:=h3 ap
  have hk:∀b,Nu J.heap.size w8 b->P b/\UnF E b:=λb m=>⟨(hP b).2 ⟨m.1,m.2.1⟩,m.2.2.same (aA.out.block b m.2.1)⟩
  exact⟨b,o,rfl,(hk b m).1,(hk b m).2,PcQ.of hk _ _ _ (hH.kept (λb m=>aA.out.block b m.2.1) _ _ _ m hr)⟩
 have b3:Hid (∀b,P b->b<E.heap.size):=λb m=>by have:=((hP b).1 m).2;omega
 have cS:Hid (∀b,b<J.heap.size->¬P b):=λb m hp=>by have:=((hP b).1 hp).1;omega
 have dq:K.length<=1000000:=V.out.2
 clear hP b4 aA
 go_upto_region 13 with(fail)
 go_loopw [20] (λi wr=>∃(k:Nat) (r:List Pc),i=.int .i64 (k:Nat)/\k+r.length=K.length/\Hid (Sq P E wr)/\Hid (r≠[]->∃b o,ab=some ⟨b,o,none⟩/\P b/\UnF wr b/\PcQ P wr r b (o+k*10))) (λi _=>K.length - (intOf i).toNat)
 case atStart=>
  refine⟨0,K,rfl,by omega,Sq.refl _ _,λap=> ?_⟩
  obtain⟨b,o,q1,q2,q3,q4⟩:=HQ.out ap
  exact⟨b,o,q1,q2,q3,by rw[Nat.zero_mul,Nat.add_zero];exact q4⟩
 case round=>
 obtain⟨k,r,rfl,hk,HS,HR⟩:=hrel
 have dr:(0:Int)<=(k:Int):=by omega
 cases r with
 | cons p r=>
   simp only[List.length_cons]at hk
   have dp:(k:Int)<(K.length:Int):=by omega
   obtain⟨b,o,rfl,m,bI,aT⟩:=HR.out (by simp)
   have b1:=AF aT
   have cJ:=AF bI
   obtain⟨⟨y0,y1,y2,d0,d1,d2⟩,⟨⟨be,bo,n1,u1,bc,ba,c0,c1,c2,c3,c4,c5,hn⟩,⟨ag,ng,cg,c6,g1,g2,g3⟩,-⟩,-⟩:=aT
   have bL:=HS.out.off.size
   have KC:Hid (Calls Tryz.prog 15 #[.agg #[.int .u8 be,.bool bo,.int .i64 n1,.int .u64 u1,.string bc,ba,.slice ag ng cg]] wr (SqP P wr)):=by
    rcases g3 with rfl | ⟨rfl,b',o',e1,e2,e3,e4⟩
    · exact ge P .nil be n1 u1 bo bc ba ag cg wr (λb m=>AI (b3.out b m) bL) hn (Nat.zero_le _) g2 (λh=>absurd rfl h)
    · exact ge P p.val.items be n1 u1 bo bc ba ag cg wr (λb m=>AI (b3.out b m) bL) hn g1 g2 (λ_=>⟨b',o',e1,e2,e3,e4⟩)
   obtain⟨av,nv,cv,rfl,-⟩:=hn
   clear g3 HR bI
   go_wp2_with fail
   refine KC.out.mono ?_
   rintro e cu ⟨rfl,aK⟩
   have cQ:=AF (HS.out.trans aK)
   have hz:∀j,cu.frozen? ⟨b,j,none⟩=false:=aK.unf b m cJ.out
   clear d0 d1 d2 c0 c1 c2 c3 c4 c5 c6 KC
   obtain⟨⟨y0,y1,y2,d0,d1,d2⟩,⟨⟨di,dA,n2,u2,de,dd,c0,c1,c2,c3,c4,c5,dB,dg,dw,rfl,-⟩,⟨dC,dh,dx,c6,-⟩,-⟩,ao⟩:=PcQ.sq aK _ _ _ m b1.out
   clear aK
   have cP:=AF (λt1 t2=>zE m d0 d1 d2 c0 c1 c2 c3 c4 c5 c6 t1 t2)
   have cR:=AF ao
   have b5:=AF hk
   clear ao hk
   go_wp2_with fail
   have M:=cP.out ⟨#[]⟩ ⟨#[]⟩
   exact⟨⟨k+1,r,by go_num,by have:=b5.out;omega,cQ.out.trans M,λ_=>⟨b,o,rfl,m,M.unf b m hz,by rw[show o+(k+1)*10=o+k*10+10 by omega];exact PcQ.sq M _ _ _ m cR.out⟩⟩,by simp[intOf];have:=b5.out;omega⟩
 | nil=>
 simp only[List.length_nil]at hk
 have ds:¬(k:Int)<(K.length:Int):=by omega
 have bw:Hid (Below J.heap.size J wr):=b8.out.trans (HS.out.off.mono λb m=>⟨by have:b<J.heap.size:=m;omega,cS.out b m⟩).below
 have aD:Hid (Below A.heap.size A wr):=ac.out.trans (bw.out.mono aI)
 have cc:Hid (Below w.heap.size w wr):=aB.out.trans (aD.out.mono (by omega))
 have cw:=HS.out.off.size
 clear HR HS HQ
 obtain⟨v0,v1,v2,v3,v4,v5,v6⟩:=fR (h:=v.h) ((aD.out.block _ (by omega)).trans ax.out)
 obtain⟨u0,u1,u2,u3,u4,u5,u6⟩:=fR (h:=v.h) ((aD.out.block _ (by omega)).trans bq.out)
 have SV:=AF (gu v _ _ _ _ wr aP.out (aj.out.kept (λb m=>aD.out.block b (by omega))).val (HX.out.kept (eL.of_below cc.out)).val)
 go_wp2_with fail
 refine SV.out.mono ?_
 rintro e G ⟨rfl,au⟩
 have a7:Hid (Below J.heap.size J G):=bw.out.trans (au.mono (by omega))
 have db:E.heap.size<=G.heap.size:=by have:=au.size;omega
 have Y:Hid (Below A.heap.size A G):=ac.out.trans (a7.out.mono aI)
 have cq:Hid (Below w.heap.size w G):=aB.out.trans (Y.out.mono (by omega))
 clear au SV v0 v1 v2 v3 v4 v5 v6 u0 u1 u2 u3 u4 u5 u6 bw aD cc cw
 obtain⟨v0,v1,v2,v3,v4,v5,v6⟩:=fR (h:=v.h) ((Y.out.block _ (by omega)).trans ax.out)
 have KC:Hid (Calls Tryz.prog 15 #[.agg #[.int .u8 (v.h.kind:Nat),.bool v.h.b,.int .i64 v.h.n,.int .u64 (v.h.bits:Nat),.string v.h.text,.slice n1 v.h.keys.length m1,.slice n2 v.items.len m2]] G (SqP (λb=>w4.heap.size<=b/\b<w5.heap.size) G)):=by
  have hk:∀b,(w4.heap.size<=b/\b<w5.heap.size/\UnF A b)->(w4.heap.size<=b/\b<w5.heap.size)/\UnF G b:=λb m=>⟨⟨m.1,m.2.1⟩,m.2.2.same (Y.out.block b (by omega))⟩
  obtain⟨h1,_,_,he,h2,h3,h4⟩:=aj.out.kept (w':=G) (λb m=>Y.out.block b (by omega))
  cases he
  exact ge _ v.items _ _ _ _ _ _ n2 m2 G (λb m=>by have:=m.2;omega) (NmQ.of hk h1) h2 h3 λap=>by
   obtain⟨b,o,e1,e2,e3⟩:=h4 ap
   exact⟨b,o,e1,(hk b e2).1,(hk b e2).2,oM.of hk _ _ _ e3⟩
 go_wp2_with fail
 refine KC.out.mono ?_
 rintro e Z ⟨rfl,N⟩
 have ak:Hid (Below w.heap.size w Z):=cq.out.trans (N.off.mono λb m=>⟨by have:b<w.heap.size:=m;omega,λh=>by have:b<w.heap.size:=m;have:=h.1;omega⟩).below
 have bj:∀b,b<w.heap.size+2->Z.heap[b]? =A.heap[b]? :=λb m=>(N.off.block b ⟨by omega,λh=>by have:=h.1;omega⟩).trans (Y.out.block b (by omega))
 have bu:Hid (Pcs (λb=>A.heap.size<=b/\b<J.heap.size) Z (.slice aa K.length ca) K):=cT.out.kept λb m=>(N.off.block b ⟨by have:=m.2;omega,λh=>by have:=h.2;have:=m.1;omega⟩).trans (a7.out.block b m.2)
 have da:E.heap.size<=Z.heap.size:=by have:=N.off.size;omega
 clear N KC v0 v1 v2 v3 v4 v5 v6
 obtain⟨u0,u1⟩:=wE ((bj w.heap.size (by omega)).trans bY.out)
 obtain⟨v0,v1,v2,v3,v4,v5,v6⟩:=fR (h:=v.h) ((bj (w.heap.size+1) (by omega)).trans bq.out)
 have M:w.heap.size<=Z.heap.size:=by omega
 have RG:=qQ t aQ.out v aR.out fuel calls am ad a1 a2 cm cd c1 c2 Z ((HP.out.kept (eL.of_below ak.out)).mono (λb m=>AI m M)) ((HD.out.kept (eL.of_below ak.out)).mono (λb m=>AI m M)) ((HX.out.kept (eL.of_below ak.out)).mono (λb m=>AI m M))
 rw[b2.out]at RG
 replace RG:=AF RG
 clear bj
 go_wp2_with fail
 refine RG.out.mono ?_
 rintro e aH ⟨ah,ag,cg,rfl,bM⟩
 have cp:Hid (Below w.heap.size w aH):=ak.out.trans (ah.mono M)
 have bt:=AF (bu.out.kept (λb m=>ah.block b (by have:=m.2;omega)))
 have az:=AF bM
 have c8:Z.heap.size<=aH.heap.size:=ah.size
 clear ah bM RG u0 u1 v0 v1 v2 v3 v4 v5 v6
 dsimp only
 have SP:=AF (kk K (λp hp=>Va.sm_wf (V.out.1 p hp).1) (by omega) _ _ _ _ aH bt.out az.out)
 go_wp2_with fail
 refine SP.out.mono ?_
 rintro e aG ⟨rfl,af⟩
 have co:Hid (Below w.heap.size w aG):=cp.out.trans (af.mono (by omega))
 have ay:=AF (az.out.kept (λb m=>af.block b m))
 have bD:aH.heap.size<=aG.heap.size:=af.size
 clear af SP
 go_wp2_with fail
 refine(o3 K V.out.1 V.out.2 _ _ aG ay.out).mono ?_
 rintro e aF ⟨va,rfl,aN,ae⟩
 obtain⟨tr,aJ⟩:∃tr,K.map lE=tr:=⟨_,rfl⟩
 have cC:tr.length<=140737488351232:=by rw[<-aJ,List.length_map];omega
 have cK:=AF aJ
 rw[aJ]at aN
 obtain⟨dE,dz,rfl,-⟩:=id aN
 have cW:=AF aN
 have bs:=AF (ay.out.kept (λb m=>ae.block b (AI m bD)))
 have cn:Hid (Below w.heap.size w aF):=co.out.trans (ae.mono (by omega))
 have c7:aG.heap.size<=aF.heap.size:=ae.size
 clear aN ae aJ
 have dv:((ea:Int)==(ea:Int))=true:=beq_self_eq_true _
 have du:(pa==pa)=true:=beq_self_eq_true _
 go_wp2_with fail
 refine(ni K V.out.1 V.out.2 _ _ aF bs.out).mono ?_
 rintro e a8 ⟨vb,rfl,aM,R⟩
 rw[cK.out]at aM
 obtain⟨dD,dy,rfl,-⟩:=id aM
 have cU:=AF aM
 have bv:=AF (cW.out.lt.kept (λb m=>R.block b m.2) R.size)
 have cj:Hid (Below w.heap.size w a8):=cn.out.trans (R.mono (by omega))
 have cZ:aF.heap.size<=a8.heap.size:=R.size
 clear aM R
 go_wp2_with fail
 refine(lH _ _ tr cC _ _ a8 bv.out cU.out).mono ?_
 rintro e ct ⟨rfl,aU⟩
 have ci:Hid (Below w.heap.size w ct):=cj.out.trans (aU.mono (by omega))
 clear aU
 go_wp2_with fail
 go_ret
 exact⟨rfl,ci.out⟩
end Go.Proofs.YtepcpgdfbaklfaaGreatDoor
