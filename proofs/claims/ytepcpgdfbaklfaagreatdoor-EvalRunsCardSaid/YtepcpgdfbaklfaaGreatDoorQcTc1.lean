/- The contract of lacunaref00.CopyParts: a list of its own, in new blocks. The condition: no more than 2 to the 24th parts, names or bytes. -/
import Derived.Test.YtepcpgdfbaklfaaGreatDoorTc0Q
import Derived.Test.YtepcpgdfbaklfaaGreatDoorQcTs0
import Derived.Test.YtepcpgdfbaklfaaGreatDoorQcTrc
set_option maxRecDepth 100000
set_option maxHeartbeats 40000000
set_option linter.unusedVariables false
set_option linter.unusedSimpArgs false
namespace Go.Proofs.YtepcpgdfbaklfaaGreatDoor
open Go.RowKit Go.Shelf
attribute [local go_sem ↓] Go.wp_at_zero Go.wp_at_succ
def CpP (x:Pt)(w:World)(e:Ending)(w':World):Prop:=∃m,e=.returned m/\d8 (Nb w.heap.size w') w' m x/\Below w.heap.size w w'
def ub (n:Nat):Prop:=∀(x:Pt),x.cnt<n->∀(ok:Nat->Prop) (v:Value) (w:World),x.sm->x.cnt<=16777216->d8 ok w v x->Calls Tryz.prog 28 #[v] w (CpP x w)
theorem set4 (h:Hd)(r m o v:Value):(eo h r m o).setIfInBounds 4 v=eo h v m o:=rfl
theorem app_one (d:Pt)(h:Hd)(k e r:Pt):(d.app (.one h k e)).app r=d.app (.cons h k e r):=by rw[Pt.app_assoc];rfl
theorem vA (d:Pt)(h:Hd)(k e:Pt):(d.app (.one h k e)).len=d.len+1:=by rw[Pt.len_app];rfl
theorem Strs.set {C q j:Nat}{w:World}{v u:Value}{l:List ByteArray}(h:Strs (Nb C w) w v l)(o:q<C):Strs (Nb C (w.setCell ⟨q,j,none⟩ u)) (w.setCell ⟨q,j,none⟩ u) v l:=
 (h.kept (λb m=>Below.heap_setCell _ _ _ _ (λe=>by have r:b=q:=e;have:=m.1;omega))).mono (λb m=>⟨m.1,by simp[World.setCell];exact m.2⟩)
theorem d8.set {C q j:Nat}{w:World}{v u:Value}{l:Pt}(h:d8 (Nb C w) w v l)(o:q<C):d8 (Nb C (w.setCell ⟨q,j,none⟩ u)) (w.setCell ⟨q,j,none⟩ u) v l:=
 (h.kept (λb m=>Below.heap_setCell _ _ _ _ (λe=>by have r:b=q:=e;have:=m.1;omega))).mono (λb m=>⟨m.1,by simp[World.setCell];exact m.2⟩)
theorem Strs.grow {C:Nat}{w w':World}{v:Value}{l:List ByteArray}(h:Strs (Nb C w) w v l)(m:Below w.heap.size w w'):Strs (Nb C w') w' v l:=
 (h.kept (λb k=>m.block b k.2)).mono (λb k=>⟨k.1,AI k.2 m.size⟩)
theorem d8.grow {C:Nat}{w w':World}{v:Value}{l:Pt}(h:d8 (Nb C w) w v l)(m:Below w.heap.size w w'):d8 (Nb C w') w' v l:=
 (h.kept (λb k=>m.block b k.2)).mono (λb k=>⟨k.1,AI k.2 m.size⟩)
theorem xH (n:Nat)(ih:ub n):ub (n+1):=by
 intro x hn ok v w au bn hx
 obtain⟨a,c,rfl,h1,h2,h3⟩:=hx.lt
 have HX:Hid (jX ok a w x 0):=λaR=>by
  obtain⟨b,o,q1,q2,q3⟩:=h3 aR
  exact⟨b,o,q1,q2,by rw[Nat.zero_mul,Nat.add_zero];exact q3⟩
 have a8:=AF au
 have IH:=AF ih
 have bh:=eD x
 clear h3 hx h1 h2 ih au
 go_enter Tryz.func28,Tryz.ntmps28
 go_wp2_with fail
 go_loopw [3,4] (λv3 v4 wr=>∃(k:Nat) (oa:Option Addr) (on oc:Nat) (d r:Pt),v3=.slice oa on oc/\v4=.int .i64 (k:Nat)/\k+r.len=x.len/\Hid (rF w.heap.size wr v3 d)/\Hid (d.app r=x)/\Hid (d.len=k)/\Hid (jX ok a w r k)/\r.cnt<=x.cnt/\Hid r.sm/\Hid (Below w.heap.size w wr)) (λ_ i _=>x.len - (intOf i).toNat)
 case atStart=>exact⟨0,none,0,0,.nil,x,rfl,rfl,by omega,rF.nil _ _,rfl,rfl,HX,AG _,a8,AH _ _⟩
 case round=>
  obtain⟨k,oa,on,oc,d,r,rfl,rfl,hk,HO,HD,aK,HR,aW,a7,HB⟩:=hrel
  cases r with
  | nil=>
    simp only[Pt.len]at hk
    have bm:¬(k:Int)<(x.len:Int):=by omega
    have HE:Hid (d=x):=by have:=HD.out;rwa[Pt.app_nil]at this
    go_wp2_with fail
    go_ret
    exact⟨_,rfl,by rw[<-HE.out];exact HO.out.parts,HB.out⟩
  | cons h m A r=>
    simp only[Pt.len]at hk
    simp only[Pt.cnt]at aW
    have bi:(k:Int)<(x.len:Int):=by omega
    have bk:(0:Int)<=(k:Int):=by omega
    obtain⟨aP,av,aw,ar⟩:=a7.out
    have aI:=AF ar
    obtain⟨s1,s2,s3,s4,s5⟩:=aP
    obtain⟨b,o,rfl,G,ab⟩:=HR.out (by simp)
    have ba:Hid (jX ok (some ⟨b,o,none⟩) w r (k+1)):=λ_=>⟨b,o,rfl,G,by have:=ab.2.2.2;rwa[show o+k*8+8=o+(k+1)*8 by omega]at this⟩
    obtain⟨⟨g0,g1,g2,g3,⟨vn,g4,aa⟩,g5⟩,⟨ak,ck,g6,k1,k2,k3⟩,⟨R,O,g7,e1,e2,e3⟩,-⟩:=ab
    have U:=HB.out.size
    have KC:Hid (∀W,Below w.heap.size w W->Calls Tryz.prog 28 #[.slice ak m.len ck] W (CpP m W)):=λW hW=>
     IH.out m (by omega) (λb=>ok b/\b<w.heap.size) _ W av (by omega) (d8.kept ⟨ak,ck,rfl,k1,k2,k3⟩ (λb G=>hW.block b G.2))
    have EC:Hid (∀W,Below w.heap.size w W->Calls Tryz.prog 28 #[.slice R A.len O] W (CpP A W)):=λW hW=>
     IH.out A (by omega) (λb=>ok b/\b<w.heap.size) _ W aw (by omega) (d8.kept ⟨R,O,rfl,e1,e2,e3⟩ (λb G=>hW.block b G.2))
    have aZ:Hid (∀W,Below w.heap.size w W->Strs (λb=>ok b/\b<w.heap.size) W vn h.names):=λW hW=>aa.kept (λb G=>hW.block b G.2)
    have HA:Hid (Below wr.heap.size wr (wr.alloc (.cells (eo h vn (.slice ak m.len ck) (.slice R A.len O)) 56))):=(AH _ wr).alloc (AG _) _
    have HT:Hid ((wr.alloc (.cells (eo h vn (.slice ak m.len ck) (.slice R A.len O)) 56)).heap[wr.heap.size]? =some (.cells (eo h vn (.slice ak m.len ck) (.slice R A.len O)) 56 (0,0))):=heap_alloc_new wr _
    have HS:Hid ((wr.alloc (.cells (eo h vn (.slice ak m.len ck) (.slice R A.len O)) 56)).heap.size=wr.heap.size+1):=by unfold Hid;simp
    obtain⟨an,cn,rfl,n1,n2,-⟩:=aa
    have Z:∀j y,w.cell? ⟨b,o+k*8+j,none⟩=some y->wr.cell? ⟨b,o+k*8+j,none⟩=some y:=λj y hy=>(HB.out.cell (p:=⟨b,_,none⟩) G.2).trans hy
    have p0:=Z 0 _ g0
    have p1:=Z 1 _ g1
    have p2:=Z 2 _ g2
    have p3:=Z 3 _ g3
    have p4:=Z 4 _ g4
    have p5:=Z 5 _ g5
    have p6:=Z 6 _ g6
    have p7:=Z 7 _ g7
    rw[Nat.add_zero]at p0
    have bo:b<wr.heap.size:=AI G.2 HB.out.size
    have aJ:=AF hk
    have bj:k+1+r.len<=x.len:=by omega
    have aQ:h.names.length<=16777216:=s4
    clear k3 e3 g0 g1 g2 g3 g4 g5 g6 g7 Z hk av aw ar s5
    unfold eo at HA HT HS
    go_upto_region 6 with(fail)
    generalize aX:World.alloc wr _=W0 at*
    clear aX p0 p1 p2 p3 p4 p5 p6 p7
    have aN:Hid (Below w.heap.size w W0):=HB.out.trans (HA.out.mono U)
    have bp:Hid (rF w.heap.size W0 (.slice oa on oc) d):=HO.out.below HA.out
    have x4:W0.cell? ⟨wr.heap.size,4,none⟩=some (.slice an h.names.length cn):=by rw[dW HT.out];rfl
    have aB:=AF (aZ.out _ aN.out)
    have hP:wr.heap.size<W0.heap.size:=by rw[HS.out];omega
    go_upto_region 7 with(at_builtin;refine vy rfl _ _ rfl W0.heap.size rfl _ h.names _ rfl aB.out aQ (AG _) ?_;intro v1 w1 ai aA aU;obtain⟨a1,c1,rfl,q1,q2,-⟩:=id ai;have aH:=AF ai;have M:=AF aA;clear ai aA aU;have c4:w1.cell? ⟨wr.heap.size,4,none⟩=some (.slice an h.names.length cn):=(M.out.cell (p:=⟨wr.heap.size,4,none⟩) hP).trans x4;have z4:w1.frozen? ⟨wr.heap.size,4,none⟩=false:=dY ((M.out.block _ hP).trans HT.out) 4)
    have ao:Hid ((w1.setCell ⟨wr.heap.size,4,none⟩ (.slice a1 h.names.length c1)).heap[wr.heap.size]? =some (.cells (eo h (.slice a1 h.names.length c1) (.slice ak m.len ck) (.slice R A.len O)) 56 (0,0))):=d7 (j:=4) ((M.out.block _ hP).trans HT.out) _
    have af:Hid (Below wr.heap.size wr (w1.setCell ⟨wr.heap.size,4,none⟩ (.slice a1 h.names.length c1))):=(HA.out.trans (M.out.mono (Nat.le_of_lt hP))).setCell (p:=⟨wr.heap.size,4,none⟩) (AG _) _
    have HV:Hid (Strs (Nb (wr.heap.size+1) (w1.setCell ⟨wr.heap.size,4,none⟩ (.slice a1 h.names.length c1))) (w1.setCell ⟨wr.heap.size,4,none⟩ (.slice a1 h.names.length c1)) (.slice a1 h.names.length c1) h.names):=by
     have:=aH.out;rw[HS.out]at this;exact this.set (Nat.lt_succ_self _)
    have al:Hid (wr.heap.size+1<=(w1.setCell ⟨wr.heap.size,4,none⟩ (.slice a1 h.names.length c1)).heap.size):=by
     have:=M.out.size;rw[HS.out]at this;unfold Hid;simp[World.setCell];exact this
    clear c4 z4 x4 aB M aH
    generalize World.setCell w1 _ _=W1 at*
    have aM:Hid (Below w.heap.size w W1):=HB.out.trans (af.out.mono U)
    have x6:W1.cell? ⟨wr.heap.size,6,none⟩=some (.slice ak m.len ck):=by rw[dW ao.out];rfl
    have aC:=AF (KC.out _ aM.out)
    go_wp2_with fail
    refine aC.out.mono ?_
    rintro e w2 ⟨v2,rfl,ah,az⟩
    obtain⟨a2,c2,rfl,q3,q4,-⟩:=id ah
    have J:=AF az
    have aG:=AF ah
    have Y:wr.heap.size<W1.heap.size:=al.out
    have c6:w2.cell? ⟨wr.heap.size,6,none⟩=some (.slice ak m.len ck):=(J.out.cell (p:=⟨wr.heap.size,6,none⟩) Y).trans x6
    have z6:w2.frozen? ⟨wr.heap.size,6,none⟩=false:=dY ((J.out.block _ Y).trans ao.out) 6
    clear az ah aC x6
    go_upto_region 8 with(fail)
    have am:Hid ((w2.setCell ⟨wr.heap.size,6,none⟩ (.slice a2 m.len c2)).heap[wr.heap.size]? =some (.cells (eo h (.slice a1 h.names.length c1) (.slice a2 m.len c2) (.slice R A.len O)) 56 (0,0))):=d7 (j:=6) ((J.out.block _ Y).trans ao.out) _
    have ad:Hid (Below wr.heap.size wr (w2.setCell ⟨wr.heap.size,6,none⟩ (.slice a2 m.len c2))):=(af.out.trans (J.out.mono (Nat.le_of_lt Y))).setCell (p:=⟨wr.heap.size,6,none⟩) (AG _) _
    have aE:Hid (Strs (Nb (wr.heap.size+1) (w2.setCell ⟨wr.heap.size,6,none⟩ (.slice a2 m.len c2))) (w2.setCell ⟨wr.heap.size,6,none⟩ (.slice a2 m.len c2)) (.slice a1 h.names.length c1) h.names):=(HV.out.grow J.out).set (Nat.lt_succ_self _)
    have HK:Hid (d8 (Nb (wr.heap.size+1) (w2.setCell ⟨wr.heap.size,6,none⟩ (.slice a2 m.len c2))) (w2.setCell ⟨wr.heap.size,6,none⟩ (.slice a2 m.len c2)) (.slice a2 m.len c2) m):=by
     have:=aG.out.mono (ok':=Nb (wr.heap.size+1) w2) (λb G=>⟨Nat.le_trans al.out G.1,G.2⟩)
     exact this.set (Nat.lt_succ_self _)
    have aD:Hid (wr.heap.size+1<=(w2.setCell ⟨wr.heap.size,6,none⟩ (.slice a2 m.len c2)).heap.size):=by
     have:=J.out.size;unfold Hid;simp[World.setCell];have:=al.out;omega
    clear c6 z6 J aG HV
    generalize World.setCell w2 _ _=W2 at*
    have aL:Hid (Below w.heap.size w W2):=HB.out.trans (ad.out.mono U)
    have x7:W2.cell? ⟨wr.heap.size,7,none⟩=some (.slice R A.len O):=by rw[dW am.out];rfl
    have aO:=AF (EC.out _ aL.out)
    go_wp2_with fail
    refine aO.out.mono ?_
    rintro e N ⟨v5,rfl,ag,ay⟩
    obtain⟨a3,c3,rfl,q5,q6,-⟩:=id ag
    have E:=AF ay
    have aF:=AF ag
    have V:wr.heap.size<W2.heap.size:=aD.out
    have c7:N.cell? ⟨wr.heap.size,7,none⟩=some (.slice R A.len O):=(E.out.cell (p:=⟨wr.heap.size,7,none⟩) V).trans x7
    have z7:N.frozen? ⟨wr.heap.size,7,none⟩=false:=dY ((E.out.block _ V).trans am.out) 7
    clear ay ag aO x7
    go_upto_region 9 with(fail)
    have I:Hid ((N.setCell ⟨wr.heap.size,7,none⟩ (.slice a3 A.len c3)).heap[wr.heap.size]? =some (.cells (eo h (.slice a1 h.names.length c1) (.slice a2 m.len c2) (.slice a3 A.len c3)) 56 (0,0))):=d7 (j:=7) ((E.out.block _ V).trans am.out) _
    have ac:Hid (Below wr.heap.size wr (N.setCell ⟨wr.heap.size,7,none⟩ (.slice a3 A.len c3))):=(ad.out.trans (E.out.mono (Nat.le_of_lt V))).setCell (p:=⟨wr.heap.size,7,none⟩) (AG _) _
    have aY:Hid (Strs (Nb (wr.heap.size+1) (N.setCell ⟨wr.heap.size,7,none⟩ (.slice a3 A.len c3))) (N.setCell ⟨wr.heap.size,7,none⟩ (.slice a3 A.len c3)) (.slice a1 h.names.length c1) h.names):=(aE.out.grow E.out).set (Nat.lt_succ_self _)
    have be:Hid (d8 (Nb (wr.heap.size+1) (N.setCell ⟨wr.heap.size,7,none⟩ (.slice a3 A.len c3))) (N.setCell ⟨wr.heap.size,7,none⟩ (.slice a3 A.len c3)) (.slice a2 m.len c2) m):=(HK.out.grow E.out).set (Nat.lt_succ_self _)
    have bf:Hid (d8 (Nb (wr.heap.size+1) (N.setCell ⟨wr.heap.size,7,none⟩ (.slice a3 A.len c3))) (N.setCell ⟨wr.heap.size,7,none⟩ (.slice a3 A.len c3)) (.slice a3 A.len c3) A):=by
     have:=aF.out.mono (ok':=Nb (wr.heap.size+1) N) (λb G=>⟨Nat.le_trans aD.out G.1,G.2⟩)
     exact this.set (Nat.lt_succ_self _)
    clear c7 z7 E aF aE HK
    generalize World.setCell N _ _=K at*
    have y0:K.cell? ⟨wr.heap.size,0,none⟩=some (.int .u8 (h.kind:Nat)):=by rw[dW I.out];rfl
    have y1:K.cell? ⟨wr.heap.size,1,none⟩=some (.int .i64 h.pos):=by rw[dW I.out];rfl
    have y2:K.cell? ⟨wr.heap.size,2,none⟩=some (.string h.text):=by rw[dW I.out];rfl
    have y3:K.cell? ⟨wr.heap.size,3,none⟩=some (.bool h.root):=by rw[dW I.out];rfl
    have y4:K.cell? ⟨wr.heap.size,4,none⟩=some (.slice a1 h.names.length c1):=by rw[dW I.out];rfl
    have y5:K.cell? ⟨wr.heap.size,5,none⟩=some (.string h.name):=by rw[dW I.out];rfl
    have y6:K.cell? ⟨wr.heap.size,6,none⟩=some (.slice a2 m.len c2):=by rw[dW I.out];rfl
    have y7:K.cell? ⟨wr.heap.size,7,none⟩=some (.slice a3 A.len c3):=by rw[dW I.out];rfl
    have bd:Hid (rF w.heap.size K (.slice oa on oc) d):=HO.out.below ac.out
    have E:Hid (Below w.heap.size w K):=HB.out.trans (ac.out.mono U)
    have ap:Hid (∀W b,Nb (wr.heap.size+1) W b->Nw w.heap.size W (.slice oa on oc) b):=λW b G=>⟨by have:=G.1;omega,G.2,λe=>by
     obtain⟨cs,ho,-⟩:=HO.out
     have:=(fg ho b e).2;have:=G.1;omega⟩
    have aV:d.len<=16777216:=by have:=aK.out;have:=aJ.out;omega
    have aq:w.heap.size<=K.heap.size:=E.out.size
    go_wp2_with (at_builtin;refine vz rfl _ _ rfl w.heap.size (.slice oa on oc) d rfl (bd.out.below ((AH _ _).alloc (AG _) _)) h m A _ _ _ K.heap.size 1 rfl 56 (0,0) (heap_alloc_new K _) ((aY.out.grow ((AH _ _).alloc (AG _) _)).mono (ap.out _)) ((be.out.grow ((AH _ _).alloc (AG _) _)).mono (ap.out _)) ((bf.out.grow ((AH _ _).alloc (AG _) _)).mono (ap.out _)) aV (by simp;omega) ?_;intro v6 w4 aj ax aT aS;obtain⟨a6,n6,c6,rfl⟩:∃a n c,v6=.slice a n c:=(by obtain⟨cs,ho,-⟩:=aj;obtain⟨a,c,rfl,-⟩:=fd ho;exact⟨_,_,_,rfl⟩);have bc:=AF aj;have bg:Hid (Below w.heap.size w w4):=(E.out.alloc aq _).trans ax;clear aj ax aT aS)
    exact⟨⟨k+1,_,_,_,_,r,rfl,by go_num,by have:=aJ.out;omega,bc,by unfold Hid;rw[app_one];exact HD.out,by unfold Hid;rw[vA,aK.out],ba,by omega,aI,bg⟩,by simp[intOf];omega⟩
theorem zb (n:Nat):ub n:=by
 induction n with
 | zero=>intro x h;exact absurd h (Nat.not_lt_zero _)
 | succ n m=>exact xH n m
theorem iq (x:Pt)(ok:Nat->Prop)(v:Value)(w:World)(m:x.sm)(o:x.cnt<=16777216)(hx:d8 ok w v x):Calls Tryz.prog 28 #[v] w (CpP x w):=
 zb (x.cnt+1) x (Nat.lt_succ_self _) ok v w m o hx
theorem nA {fn:Func}{k:Tmp}{b:Nat}{x y:Value}{tmps:Array Value}{w:World}(h:fn.results=#[.cell k 25])(o:tmps.getD k undef=.pointer (some ⟨b,0,none⟩))(r:w.heap[b]? =some (.cells #[x,y] 25 (0,0))):
 (results fn tmps).run Tryz.prog w=.ok (.agg #[x,y]) w:=by
 have c:=λj=>dW r j
 have c0:w.cell? ⟨b,0,none⟩=some x:=c 0
 have c1:w.cell? ⟨b,1,none⟩=some y:=c 1
 have m:tmps[k]?.getD undef=.pointer (some ⟨b,0,none⟩):=by rw[<-o];simp
 clear c r o
 simp[results,h,m,go_sem,c0,c1]
def AB (t:Tm)(w:World)(e:Ending)(w':World):Prop:=∃m o,e=.returned (.agg #[m,o])/\d8 (Nb w.heap.size w') w' m t.main/\fU (Nb w.heap.size w') w' o t.defs/\Below w.heap.size w w'
structure Ad (C:Nat)(w:World)(q:Nat)(vm vd:Value)(m:Pt)(l:List Df):Prop where
 blk:w.heap[q]? =some (.cells #[vm,vd] 25 (0,0))
 main:d8 (Nw C w vd) w vm m
 defs:oS C w vd l
theorem uP {C:Nat}{w:World}{m:Value}{l:List Df}(h:oS C w m l):∀g,m.ownBlock=some g->C<=g/\g<w.heap.size:=by
 obtain⟨cs,o,-⟩:=h
 exact fg o
theorem oS.set {C q j:Nat}{w:World}{v u:Value}{l:List Df}(h:oS C w v l)(E:q<C):oS C (w.setCell ⟨q,j,none⟩ u) v l:=by
 obtain⟨cs,m,r⟩:=h
 refine⟨cs,fA m (λg o=>Below.heap_setCell _ _ _ _ (λe=>by have A:g=q:=e;have:=(fg m g o).1;omega)),?_⟩
 exact(r.kept (λb k=>Below.heap_setCell _ _ _ _ (λe=>by have A:b=q:=e;have:=k.1;omega))).mono (λb k=>⟨k.1,by simp[World.setCell];exact k.2.1,k.2.2⟩) _ _
theorem d8.setN {C q j:Nat}{w:World}{v0 v u:Value}{t:Pt}(h:d8 (Nw C w v0) w v t)(m:q<C):d8 (Nw C (w.setCell ⟨q,j,none⟩ u) v0) (w.setCell ⟨q,j,none⟩ u) v t:=
 (h.kept (λb k=>Below.heap_setCell _ _ _ _ (λe=>by have o:b=q:=e;have:=k.1;omega))).mono (λb k=>⟨k.1,by simp[World.setCell];exact k.2.1,k.2.2⟩)
theorem d8.growN {C:Nat}{w w':World}{v0 v:Value}{t:Pt}(h:d8 (Nw C w v0) w v t)(m:Below w.heap.size w w'):d8 (Nw C w' v0) w' v t:=
 (h.kept (λb k=>m.block b k.2.1)).mono (λb k=>⟨k.1,AI k.2.1 m.size,k.2.2⟩)
theorem jA (t:Tm)(hz:TmZ t)(ok ok':Nat->Prop)(vm vd:Value)(w:World)(hp:d8 ok w vm t.main)(hd:fU ok' w vd t.defs):
 Calls Tryz.prog 10 #[.agg #[vm,vd]] w (AB t w):=by
 obtain⟨main,defs⟩:=t
 obtain⟨z1,z2,z3,z4,-⟩:=hz
 dsimp only at z1 z2 z3 z4 hp hd
 have MC:Hid (∀W,Below w.heap.size w W->Calls Tryz.prog 28 #[vm] W (CpP main W)):=λW hW=>
  iq main (λb=>ok b/\b<w.heap.size) vm W z1 (by omega) (hp.lt.kept (λb r=>hW.block b r.2))
 obtain⟨I,G,rfl,-⟩:=hp
 obtain⟨a,c,rfl,h1,h2,h3⟩:=hd.lt
 have H3:=AF h3
 have aF:=AF z2
 have aJ:=AF z3
 have aA:Hid (Below w.heap.size w (((w.alloc (.cells #[.slice I main.len G,.slice a defs.length c] 25)).alloc (.cells #[.slice none 0 0,.slice none 0 0] 25)).alloc (.cells #[.slice none 0 0,.slice none 0 0] 25))):=(((AH _ w).alloc (AG _) _).alloc (by simp) _).alloc (by simp;omega) _
 have ar:Hid ((((w.alloc (.cells #[.slice I main.len G,.slice a defs.length c] 25)).alloc (.cells #[.slice none 0 0,.slice none 0 0] 25)).alloc (.cells #[.slice none 0 0,.slice none 0 0] 25)).heap[w.heap.size]? =some (.cells #[.slice I main.len G,.slice a defs.length c] 25 (0,0))):=(Below.heap_alloc _ _ _ (by simp;omega)).trans ((Below.heap_alloc _ _ _ (by simp)).trans (heap_alloc_new w _))
 have aG:Hid ((((w.alloc (.cells #[.slice I main.len G,.slice a defs.length c] 25)).alloc (.cells #[.slice none 0 0,.slice none 0 0] 25)).alloc (.cells #[.slice none 0 0,.slice none 0 0] 25)).heap[w.heap.size+1]? =some (.cells #[.slice none 0 0,.slice none 0 0] 25 (0,0))):=by
  refine(Below.heap_alloc _ _ _ (by simp)).trans ?_
  have:=heap_alloc_new (w.alloc (.cells #[.slice I main.len G,.slice a defs.length c] 25)) (.cells #[.slice none 0 0,.slice none 0 0] 25)
  rwa[show(w.alloc (.cells #[.slice I main.len G,.slice a defs.length c] 25)).heap.size=w.heap.size+1 by simp]at this
 have ah:Hid ((((w.alloc (.cells #[.slice I main.len G,.slice a defs.length c] 25)).alloc (.cells #[.slice none 0 0,.slice none 0 0] 25)).alloc (.cells #[.slice none 0 0,.slice none 0 0] 25)).heap[w.heap.size+2]? =some (.cells #[.slice none 0 0,.slice none 0 0] 25 (0,0))):=by
  have:=heap_alloc_new ((w.alloc (.cells #[.slice I main.len G,.slice a defs.length c] 25)).alloc (.cells #[.slice none 0 0,.slice none 0 0] 25)) (.cells #[.slice none 0 0,.slice none 0 0] 25)
  rwa[show((w.alloc (.cells #[.slice I main.len G,.slice a defs.length c] 25)).alloc (.cells #[.slice none 0 0,.slice none 0 0] 25)).heap.size=w.heap.size+2 by simp]at this
 have au:Hid ((((w.alloc (.cells #[.slice I main.len G,.slice a defs.length c] 25)).alloc (.cells #[.slice none 0 0,.slice none 0 0] 25)).alloc (.cells #[.slice none 0 0,.slice none 0 0] 25)).heap.size=w.heap.size+3):=by unfold Hid;simp
 clear h3 h1 h2 z1 z2 z3 hd
 go_enter Tryz.func10,Tryz.ntmps10
 go_upto_region 2 with(fail)
 generalize af:World.alloc (World.alloc (World.alloc w _) _) _=W0 at*
 clear af
 have x0:W0.cell? ⟨w.heap.size,0,none⟩=some (.slice I main.len G):=by rw[dW ar.out];rfl
 have an:=AF (MC.out _ aA.out)
 go_wp2_with fail
 refine an.out.mono ?_
 rintro e w1 ⟨v1,rfl,ab,O⟩
 obtain⟨a1,c1,rfl,q1,q2,-⟩:=id ab
 have hs:w.heap.size+2<W0.heap.size:=by have:=au.out;omega
 have c0:w1.cell? ⟨w.heap.size+2,0,none⟩=some (.slice none 0 0):=by rw[dW ((O.block _ hs).trans ah.out)];rfl
 have z0:w1.frozen? ⟨w.heap.size+2,0,none⟩=false:=dY ((O.block _ hs).trans ah.out) 0
 have U:=AF O
 have aq:=AF ab
 clear O ab an x0
 go_upto_region 3 with(fail)
 have aT:Hid (Ad (w.heap.size+3) (w1.setCell ⟨w.heap.size+2,0,none⟩ (.slice a1 main.len c1)) (w.heap.size+2) (.slice a1 main.len c1) (.slice none 0 0) main []):=by
  refine⟨d7 (j:=0) ((U.out.block _ hs).trans ah.out) _,?_,oS.nil _ _⟩
  have:=aq.out
  rw[au.out]at this
  exact(this.set (Nat.lt_succ_self _)).mono (λb r=>⟨r.1,r.2,by intro e;cases e⟩)
 have aX:Hid (Below (w.heap.size+2) W0 (w1.setCell ⟨w.heap.size+2,0,none⟩ (.slice a1 main.len c1))):=(U.out.mono (Nat.le_of_lt hs)).setCell (p:=⟨w.heap.size+2,0,none⟩) (AG _) _
 have aI:Hid (w.heap.size+3<=(w1.setCell ⟨w.heap.size+2,0,none⟩ (.slice a1 main.len c1)).heap.size):=by unfold Hid;simp[World.setCell];have:=U.out.size;omega
 clear c0 z0 U aq
 generalize World.setCell w1 _ _=W1 at*
 go_wp2_with fail
 go_loopw [4] (λi wr=>∃(k:Nat) (m:Value),i=.int .i64 (k:Nat)/\k<=defs.length/\Hid (Ad (w.heap.size+3) wr (w.heap.size+2) (.slice a1 main.len c1) m main (defs.take k))/\Hid (Below (w.heap.size+2) W0 wr)/\Hid (w.heap.size+3<=wr.heap.size)) (λi _=>defs.length - (intOf i).toNat)
 case atStart=>exact⟨0,_,rfl,Nat.zero_le _,aT,aX,aI⟩
 case round=>
  obtain⟨k,m,rfl,hk,HI,HB,aH⟩:=hrel
  have ay:Hid (Below w.heap.size w wr):=aA.out.trans (HB.out.mono (by omega))
  have t1:wr.cell? ⟨w.heap.size,1,none⟩=some (.slice a defs.length c):=by rw[dW ((HB.out.block _ (by omega)).trans ar.out)];rfl
  have a8:w.heap.size+3<=wr.heap.size:=aH.out
  by_cases K:k<defs.length
  · have a7:(k:Int)<(defs.length:Int):=by omega
    have ba:(0:Int)<=(k:Int):=by omega
    obtain⟨d,M⟩:∃d,defs[k]? =some d:=⟨_,List.getElem?_eq_getElem K⟩
    obtain⟨b,o,rfl,r,V⟩:=H3.out (by intro e;rw[e]at K;simp at K)
    obtain⟨g0,g1,v,g2,ak⟩:=hZ.at _ _ _ _ _ M (V.kept (λb r=>ay.out.block b r.2) _ _ _ r)
    have ac:d∈defs:=List.mem_of_getElem? M
    have aE:=iX ac
    have KC:Hid (∀W,Below wr.heap.size wr W->Calls Tryz.prog 28 #[v] W (CpP d.kids W)):=λW hW=>
     iq d.kids (λb=>ok' b/\b<w.heap.size) v W (aF.out d ac).2 (by have:=aJ.out;omega) (ak.kept (λb r=>hW.block b (by have:=r.2;omega)))
    have aU:Hid (defs.take (k+1)=defs.take k++[d]):=by
     unfold Hid
     rw[List.take_succ_eq_append_getElem (by omega)]
     congr 2
     exact(List.getElem?_eq_some_iff.1 M).2
    have aV:Hid ((defs.take k).length=k):=by unfold Hid;rw[List.length_take];omega
    obtain⟨av,cv,rfl,-⟩:=ak
    have bd:b<wr.heap.size:=by have:=r.2;omega
    have HA:Hid (Below wr.heap.size wr (wr.alloc (.cells #[.string d.name,.int .i64 d.pos,.slice av d.kids.len cv] 70))):=(AH _ wr).alloc (AG _) _
    have HT:Hid ((wr.alloc (.cells #[.string d.name,.int .i64 d.pos,.slice av d.kids.len cv] 70)).heap[wr.heap.size]? =some (.cells #[.string d.name,.int .i64 d.pos,.slice av d.kids.len cv] 70 (0,0))):=heap_alloc_new wr _
    have HS:Hid ((wr.alloc (.cells #[.string d.name,.int .i64 d.pos,.slice av d.kids.len cv] 70)).heap.size=wr.heap.size+1):=by unfold Hid;simp
    clear M V ac K aE
    go_upto_region 7 with(fail)
    generalize af:World.alloc wr _=W2 at*
    clear af g0 g1 g2 t1
    have x2:W2.cell? ⟨wr.heap.size,2,none⟩=some (.slice av d.kids.len cv):=by rw[dW HT.out];rfl
    have ao:=AF (KC.out _ HA.out)
    go_wp2_with fail
    refine ao.out.mono ?_
    rintro e Z ⟨v3,rfl,aa,N⟩
    obtain⟨a3,c3,rfl,q3,q4,-⟩:=id aa
    have J:wr.heap.size<W2.heap.size:=by have:=HS.out;omega
    have c2:Z.cell? ⟨wr.heap.size,2,none⟩=some (.slice av d.kids.len cv):=(N.cell (p:=⟨wr.heap.size,2,none⟩) J).trans x2
    have aB:Z.frozen? ⟨wr.heap.size,2,none⟩=false:=dY ((N.block _ J).trans HT.out) 2
    have aj:=AF N
    have ap:=AF aa
    clear N aa ao x2
    go_upto_region 8 with(fail)
    have R:Hid ((Z.setCell ⟨wr.heap.size,2,none⟩ (.slice a3 d.kids.len c3)).heap[wr.heap.size]? =some (.cells #[.string d.name,.int .i64 d.pos,.slice a3 d.kids.len c3] 70 (0,0))):=d7 (j:=2) ((aj.out.block _ J).trans HT.out) _
    have A:Hid (Below wr.heap.size wr (Z.setCell ⟨wr.heap.size,2,none⟩ (.slice a3 d.kids.len c3))):=(HA.out.trans (aj.out.mono (Nat.le_of_lt J))).setCell (p:=⟨wr.heap.size,2,none⟩) (AG _) _
    have aP:Hid (d8 (Nb (wr.heap.size+1) (Z.setCell ⟨wr.heap.size,2,none⟩ (.slice a3 d.kids.len c3))) (Z.setCell ⟨wr.heap.size,2,none⟩ (.slice a3 d.kids.len c3)) (.slice a3 d.kids.len c3) d.kids):=by
     have:=ap.out;rw[HS.out]at this
     exact this.set (Nat.lt_succ_self _)
    clear c2 aB aj ap
    generalize World.setCell Z _ _=E at*
    obtain⟨i1,i2,i3⟩:=HI.out
    have ax:Hid (E.heap[w.heap.size+2]? =some (.cells #[.slice a1 main.len c1,m] 25 (0,0))):=(A.out.block _ (by omega)).trans i1
    have aS:Hid (d8 (Nw (w.heap.size+3) E m) E (.slice a1 main.len c1) main):=(i2.kept (λb r=>A.out.block b r.2.1)).mono (λb r=>⟨r.1,AI r.2.1 A.out.size,r.2.2⟩)
    have aR:Hid (oS (w.heap.size+3) E m (defs.take k)):=i3.below A.out
    have aL:Hid (∀g,m.ownBlock=some g->w.heap.size+3<=g/\g<wr.heap.size):=uP i3
    have y1:E.cell? ⟨w.heap.size+2,1,none⟩=some m:=by rw[dW ax.out];rfl
    have y2:E.cell? ⟨wr.heap.size,0,none⟩=some (.string d.name):=by rw[dW R.out];rfl
    have y3:E.cell? ⟨wr.heap.size,1,none⟩=some (.int .i64 d.pos):=by rw[dW R.out];rfl
    have y4:E.cell? ⟨wr.heap.size,2,none⟩=some (.slice a3 d.kids.len c3):=by rw[dW R.out];rfl
    have aZ:wr.heap.size+1<=E.heap.size:=by have:=dX R.out;omega
    have aD:(defs.take k).length<=16777216:=by have:=aV.out;omega
    have aN:Hid (∀W b,Nb (wr.heap.size+1) W b->Nw (w.heap.size+3) W m b):=λW b r=>⟨by have:=r.1;omega,r.2,λe=>by have:=(aL.out b e).2;have:=r.1;omega⟩
    clear i1 i2 i3
    go_upto_region 5 with(at_builtin;refine xP rfl _ _ rfl (w.heap.size+3) m (defs.take k) rfl (aR.out.below ((AH _ _).alloc (AG _) _)) d _ E.heap.size 1 rfl 70 (0,0) (heap_alloc_new E _) ((aP.out.grow ((AH _ _).alloc (AG _) _)).mono (aN.out _)) aD (by simp;omega) ?_;intro v6 Y ag ae aC al;obtain⟨a6,n6,c6,rfl⟩:∃a n c,v6=.slice a n c:=(by obtain⟨cs,ho,-⟩:=ag;obtain⟨a,c,rfl,-⟩:=fd ho;exact⟨_,_,_,rfl⟩);have aM:=AF ag;have az:=AF ae;have aw:=AF al;have ai:Hid (Y.heap[w.heap.size+2]? =some (.cells #[.slice a1 main.len c1,m] 25 (0,0))):=(ae.block _ (by omega)).trans ((Below.heap_alloc _ _ _ (by omega)).trans ax.out);have c7:Y.cell? ⟨w.heap.size+2,1,none⟩=some m:=(by rw[dW ai.out];rfl);have z7:Y.frozen? ⟨w.heap.size+2,1,none⟩=false:=dY ai.out 1;clear ag ae aC al)
    have aQ:Hid (Ad (w.heap.size+3) (Y.setCell ⟨w.heap.size+2,1,none⟩ (.slice a6 n6 c6)) (w.heap.size+2) (.slice a1 main.len c1) (.slice a6 n6 c6) main (defs.take (k+1))):=by
     refine⟨d7 (j:=1) ai.out _,?_,?_⟩
     · exact(((aS.out.growN ((AH E.heap.size E).alloc (AG _) _)).kept aw.out.1).mono aw.out.2).setN (by omega)
     · rw[aU.out];exact aM.out.set (by omega)
    have aY:Hid (Below (w.heap.size+2) W0 (Y.setCell ⟨w.heap.size+2,1,none⟩ (.slice a6 n6 c6))):=
     ((HB.out.trans (A.out.mono (by omega))).trans ((((AH E.heap.size E).alloc (AG _) _).mono (by omega)).trans (az.out.mono (by omega)))).setCell (p:=⟨w.heap.size+2,1,none⟩) (AG _) _
    have aK:Hid (w.heap.size+3<=(Y.setCell ⟨w.heap.size+2,1,none⟩ (.slice a6 n6 c6)).heap.size):=by
     unfold Hid;simp[World.setCell];have:=az.out.size;simp at this;omega
    clear c7 z7 y1 y2 y3 y4
    generalize World.setCell Y _ _=W5 at*
    go_wp2_with fail
    exact⟨⟨k+1,_,by go_num,by omega,aQ,aY,aK⟩,by simp[intOf];omega⟩
  · have bc:¬(k:Int)<(defs.length:Int):=by omega
    have aO:Hid (defs.take k=defs):=List.take_of_length_le (by omega)
    obtain⟨i1,i2,i3⟩:=HI.out
    rw[aO.out]at i3
    obtain⟨ad,nd,cd,rfl⟩:∃a n c,m=.slice a n c:=by
     obtain⟨cs,ho,-⟩:=id i3
     obtain⟨a,c,rfl,-⟩:=fd ho
     exact⟨_,_,_,rfl⟩
    have HR:Hid (wr.heap[w.heap.size+1]? =some (.cells #[.slice none 0 0,.slice none 0 0] 25 (0,0))):=(HB.out.block _ (by omega)).trans aG.out
    have y0:wr.cell? ⟨w.heap.size+2,0,none⟩=some (.slice a1 main.len c1):=by rw[dW i1];rfl
    have y1:wr.cell? ⟨w.heap.size+2,1,none⟩=some (.slice ad nd cd):=by rw[dW i1];rfl
    have r0:wr.cell? ⟨w.heap.size+1,0,none⟩=some (.slice none 0 0):=by rw[dW HR.out];rfl
    have r1:wr.cell? ⟨w.heap.size+1,1,none⟩=some (.slice none 0 0):=by rw[dW HR.out];rfl
    have rz:∀j,wr.frozen? ⟨w.heap.size+1,j,none⟩=false:=dY HR.out
    have HM:=AF i2
    have aW:=AF i3
    clear i1 i2 i3
    go_wp2_with fail
    refine bodyPost_ret (nA rfl rfl (ji HR.out rfl _ _)) rfl ?_
    refine⟨_,_,rfl,?_,?_,(ay.out.setCell (p:=⟨w.heap.size+1,0,none⟩) (Nat.le_succ _) _).setCell (p:=⟨w.heap.size+1,1,none⟩) (Nat.le_succ _) _⟩
    · exact((HM.out.setN (j:=0) (q:=w.heap.size+1) (by omega)).setN (j:=1) (q:=w.heap.size+1) (by omega)).mono (λb h=>⟨by have:=h.1;omega,h.2.1⟩)
    · exact(((aW.out.set (j:=0) (q:=w.heap.size+1) (by omega)).set (j:=1) (q:=w.heap.size+1) (by omega)).defs).mono (λb h=>⟨by have:=h.1;omega,h.2⟩)
end Go.Proofs.YtepcpgdfbaklfaaGreatDoor
