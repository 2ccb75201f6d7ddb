/- (*tmpl.look).parts where there is no part. The condition: as XTlk's. -/
import Derived.Test.YtepcpgdfbaklfaaGreatDoorQcTl0
import Derived.Test.YtepcpgdfbaklfaaGreatDoorQcTl2
import Derived.Test.YtepcpgdfbaklfaaGreatDoorTl4Q
import Derived.Test.YtepcpgdfbaklfaaGreatDoorTl5Q
import Derived.Test.YtepcpgdfbaklfaaGreatDoorQcTso
set_option maxRecDepth 100000
set_option maxHeartbeats 40000000
set_option linter.unusedVariables false
namespace Go.Proofs.YtepcpgdfbaklfaaGreatDoor
open Go.RowKit Go.Shelf
theorem qZ (B bx:Nat)(W:B<=bx)(O:GlB B)(Y:List Df)(U:Y.length<=16777216)(dv:Value)(n:Nat)(ih:g8 B bx Y dv n)
 (K:∀t hn m A c many deep tw Z w aa hm hd G ac ad h1 h2 ab b o E I,∀u,u∈[0,1,2,3,5]->(fy B bx W O Y U dv n ih t hn m A c many deep tw Z w aa hm hd G ac ad h1 h2 ab b o E I).1 u):g8 B bx Y dv (n+1):=by
 intro t hn m A v many deep tw Z w J hm hd G R V hp N
 obtain⟨a,c,rfl,h1,h2,h3⟩:=hp
 have E:=eD t
 have I:=fY t
 obtain⟨b,o,M⟩:∃b o,t≠.nil->a=some ⟨b,o,none⟩/\b<B/\Row (·<B) w t b o:=by
  by_cases ht:t=.nil
  · exact⟨0,0,λh=>absurd ht h⟩
  · obtain⟨b,o,r⟩:=h3 ht
    exact⟨b,o,λ_=>r⟩
 exact(fy B bx W O Y U dv n ih t hn m A c many deep tw Z w J hm hd G R V h1 h2 N b o E I).2 a M (K t hn m A c many deep tw Z w J hm hd G R V h1 h2 N b o E I)
theorem yL (B bx:Nat)(o:List Df)(m:Value)(S:∀n,g8 B bx o m n->g8 B bx o m (n+1))(n:Nat):g8 B bx o m n:=by
 induction n with
 | zero=>intro t A;omega
 | succ n r=>exact S n r
theorem pi (B bx:Nat)(G:B<=bx)(A:GlB B)(U:List Df)(E:U.length<=16777216)(V:Value)(n:Nat):g8 B bx U V n:=by
 refine yL B bx U V (λn W=>qZ B bx G A U E V n W ?_) n
 intro t Z m r c many deep tw Y w M hm hd J O R h1 h2 N b o I K u hu
 simp only[List.mem_cons,List.mem_nil_iff,or_false]at hu
 rcases hu with rfl | rfl | rfl | rfl | rfl
 · exact uO B bx G A U E V n W t Z m r c many deep tw Y w M hm hd J O R h1 h2 N b o I K
 · exact uN B bx G A U E V n W t Z m r c many deep tw Y w M hm hd J O R h1 h2 N b o I K
 · exact uM B bx G A U E V n W t Z m r c many deep tw Y w M hm hd J O R h1 h2 N b o I K
 · exact uL B bx G A U E V n W t Z m r c many deep tw Y w M hm hd J O R h1 h2 N b o I K
 · exact uK B bx G A U E V n W t Z m r c many deep tw Y w M hm hd J O R h1 h2 N b o I K
set_option linter.unusedSimpArgs false
attribute [local go_sem ↓] Go.wp_at_zero Go.wp_at_succ
def nm (l:List Df):List By:=l.map λd=>bl d.name
theorem xa (l:List Df)(k:Nat)(d:Df)(h:l[k]? =some d):nm (l.take (k+1))=nm (l.take k)++[bl d.name]:=by
 unfold nm
 rw[List.take_add_one,h];simp
theorem tn (l:List Df)(k:Nat)(d:Df)(h:l[k]? =some d):l.drop k=d::l.drop (k+1):=by
 have m:=(List.getElem?_eq_some_iff.1 h).1
 rw[List.drop_eq_getElem_cons m,(List.getElem?_eq_some_iff.1 h).2]
theorem vp (l:List Df):iK l<=1+oq l:=by
 induction l with
 | nil=>simp[iK]
 | cons d l m=>rw[gJ,gL];have:=fY d.kids;omega
theorem Gr.row {X M:Nat}{a b c:World}(h:Gr X a b)(k:b.grownBy c (some M))(r:a.heap.size<=M):Gr X a c:=
 ⟨k.os.trans h.os,k.tape.trans h.tape,k.output.trans h.output,Nat.le_trans h.size k.size,λi m o=>(k.block i (AI m h.size) (λe=>by injection e;omega)).trans (h.block i m o)⟩
def mt (t:Tm)(w:World)(e:Ending)(w':World):Prop:=e=.returned (.int .i64 (t.check:Nat))/\Below w.heap.size w w'
theorem qu {w W o:World}{t:Tm}{a:Act}{A:Value}{X:Nat}(M:w.heap.size+1+1=X)(K:Below w.heap.size w W)(r:Gr X W o)(m:w.heap.size<=W.heap.size)(G:a.defers=tD (w.heap.size+1))(J:a.tmps.getD 2 undef=.pointer (some ⟨w.heap.size+1,0,none⟩))
 (E:o.heap[w.heap.size+1]? =some (.cells #[A] 37 (0,0))) (I:t.check=190):
 bodyPostD Tryz.prog Tryz.f22 (mt t w) (.panic [{v:=vD 190 0,recovered:=false}]) a o:=by
 refine pI 190 0 G J E (λw' h=> ?_)
 refine⟨by rw[I];rfl,K.trans ((r.to_below m (by omega)).trans (h.to_below (Nat.le_trans m r.size) (by omega)))⟩
theorem pJ (t:Tm)(hz:TmZ t)(vm vd:Value)(w:World)(hg:Gd w)(hp:d8 (·<w.heap.size) w vm t.main)(hd:fU (·<w.heap.size) w vd t.defs):Calls Tryz.prog 22 #[.agg #[vm,vd]] w (mt t w):=by
 have SC:Hid (∀W,Below w.heap.size w W->Calls Tryz.prog 40 #[.agg #[vm,vd]] W λe w'=>e=.returned (.string (mkB t.src))/\Below W.heap.size W w'):=λW hW=>
  nu t hz vm vd W ((hp.kept (eL.of_below hW)).mono (λb hb=>AI hb hW.size)) ((hd.kept (eL.of_below hW)).mono (λb hb=>AI hb hW.size))
 have bS:=hz.src
 have bm:(mkB t.src).size=t.src.length:=rfl
 obtain⟨main,defs⟩:=t
 obtain⟨z1,z2,z3,z4,-⟩:=hz
 dsimp only at z1 z2 z3 z4 hp hd
 have PK:=AF (pi w.heap.size (w.heap.size+1+1) (by omega) hg.glB defs z4 vd)
 have GW:Hid (∀W,Below w.heap.size w W->Gd W):=λW hW=>hg.belowB hg.glB hW
 have aY:Hid (∀W,Below w.heap.size w W->fU (·<w.heap.size) W vd defs):=λW hW=>hd.kept (eL.of_below hW)
 have bK:Hid (∀W,Below w.heap.size w W->d8 (·<w.heap.size) W vm main):=λW hW=>hp.kept (eL.of_below hW)
 obtain⟨am,cm,rfl,m1,m2,-⟩:=hp
 obtain⟨a,c,rfl,h1,h2,h3⟩:=hd
 have bW:c<=9223372036854775807:=by unfold maxLen at h2;exact h2
 obtain⟨b,o,Y⟩:∃b o,(defs≠[]->a=some ⟨b,o,none⟩/\b<w.heap.size/\hZ (·<w.heap.size) w defs b o):=by
  by_cases hn:defs=[]
  · exact⟨0,0,λh=>absurd hn h⟩
  · obtain⟨b,o,h⟩:=h3 hn
    exact⟨b,o,λ_=>h⟩
 have HR:=AF Y
 have bH:=AF z2
 have bI:Hid (main.cnt+oq defs<=16000000):=z3
 have bX:=bI.out
 have b3:= @run_makeMap Tryz.prog
 have b5:∀(fn:Fn) (first cap:Array Value) (w:World),(Instr.makeFunc fn first cap).run Tryz.prog w=.ok (.func fn first cap) w:=λ_ _ _ _=>rfl
 clear h3 Y z2 z3
 have V:Hid (Below w.heap.size w (((w.alloc (.cells #[.slice am main.len cm,.slice a defs.length c] 25)).alloc (.cells #[.int .i64 0] 37)).alloc (.cells #[.slice a defs.length c,.int .i64 0,.int .i64 0,.bool false,.bool false] 87))):=(((AH w.heap.size w).alloc (AG _) _).alloc (by simp) _).alloc (by simp;omega) _
 have r:Hid ((((w.alloc (.cells #[.slice am main.len cm,.slice a defs.length c] 25)).alloc (.cells #[.int .i64 0] 37)).alloc (.cells #[.slice a defs.length c,.int .i64 0,.int .i64 0,.bool false,.bool false] 87)).heap.size=w.heap.size+1+1+1):=by unfold Hid;simp
 have be:Hid ((((w.alloc (.cells #[.slice am main.len cm,.slice a defs.length c] 25)).alloc (.cells #[.int .i64 0] 37)).alloc (.cells #[.slice a defs.length c,.int .i64 0,.int .i64 0,.bool false,.bool false] 87)).heap[w.heap.size]? =some (.cells #[.slice am main.len cm,.slice a defs.length c] 25 (0,0))):=(Below.heap_alloc _ _ _ (by simp;omega)).trans ((Below.heap_alloc _ _ _ (by simp)).trans (heap_alloc_new w _))
 have aM:Hid ((((w.alloc (.cells #[.slice am main.len cm,.slice a defs.length c] 25)).alloc (.cells #[.int .i64 0] 37)).alloc (.cells #[.slice a defs.length c,.int .i64 0,.int .i64 0,.bool false,.bool false] 87)).heap[w.heap.size+1]? =some (.cells #[.int .i64 0] 37 (0,0))):=by
  have:=heap_alloc_new (w.alloc (.cells #[.slice am main.len cm,.slice a defs.length c] 25)) (.cells #[.int .i64 0] 37)
  rw[show(w.alloc (.cells #[.slice am main.len cm,.slice a defs.length c] 25)).heap.size=w.heap.size+1 by simp]at this
  exact(Below.heap_alloc _ _ _ (by simp)).trans this
 have bO:Hid (Lk (w.heap.size+1+1) (.slice a defs.length c) 0 0 false false (((w.alloc (.cells #[.slice am main.len cm,.slice a defs.length c] 25)).alloc (.cells #[.int .i64 0] 37)).alloc (.cells #[.slice a defs.length c,.int .i64 0,.int .i64 0,.bool false,.bool false] 87))):=by
  have:=heap_alloc_new ((w.alloc (.cells #[.slice am main.len cm,.slice a defs.length c] 25)).alloc (.cells #[.int .i64 0] 37)) (.cells #[.slice a defs.length c,.int .i64 0,.int .i64 0,.bool false,.bool false] 87)
  rw[show((w.alloc (.cells #[.slice am main.len cm,.slice a defs.length c] 25)).alloc (.cells #[.int .i64 0] 37)).heap.size=w.heap.size+1+1 by simp]at this
  exact this
 go_enter_defers Tryz.func22,Tryz.ntmps22
 go_wp2_with fail
 generalize bF:(((w.alloc (.cells #[.slice am main.len cm,.slice a defs.length c] 25)).alloc (.cells #[.int .i64 0] 37)).alloc (.cells #[.slice a defs.length c,.int .i64 0,.int .i64 0,.bool false,.bool false] 87))=W0 at*
 generalize hX:w.heap.size+1+1=X at*
 clear bF
 have C1:=AF (PK.out (main.cnt+1) main (Nat.lt_succ_self _) 0 true (.slice am main.len cm) 0 0 false false W0 z1 (by omega) (by omega) (by omega) (GW.out _ V.out) (aY.out _ V.out) (bK.out _ V.out) bO.out)
 refine C1.out.mono ?_
 rintro e w2 ⟨bp,h2⟩
 have ag:=AF bp
 clear bp C1
 rcases h2 with⟨O,rfl,hL⟩ | ⟨O,rfl⟩
 rotate_left
 · have HF:=AF O
   clear O
   go_wp2_with fail
   exact qu hX V.out ag.out (by have:=r.out;omega) rfl rfl ((ag.out.block _ (by have:=r.out;omega) (λe=>by injection e;omega)).trans aM.out) (ry _ HF.out)
 have HF:=AF O
 have bw:Hid (Lk X (.slice a defs.length c) (main.cnt:Nat) (main.deep:Nat) false (!main.called defs) w2):=by
  unfold Hid
  have:=hL
  simpa using this
 clear O hL
 have b2:X+1<=w2.heap.size:=by have:=ag.out.size;have:=r.out;omega
 have x1:w2.cell? ⟨w.heap.size,1,none⟩=some (.slice a defs.length c):=by rw[dW ((ag.out.block _ (by have:=r.out;omega) (λe=>by injection e;omega)).trans be.out)];rfl
 have bC:(w2.alloc (.map #[] 0)).cell? ⟨w.heap.size,1,none⟩=some (.slice a defs.length c):=by rw[dW ((Below.heap_alloc _ _ _ (by omega)).trans ((ag.out.block _ (by have:=r.out;omega) (λe=>by injection e;omega)).trans be.out))];rfl
 go_wp2_with fail
 have bM:Hid (nb w2.heap.size 0 [] (w2.alloc (.map #[] 0))):=nb.made w2
 have bP:Hid (Gr X W0 (w2.alloc (.map #[] 0))):=ag.out.trans (Gr.alloc _ _)
 have bN:Hid (Lk X (.slice a defs.length c) (main.cnt:Nat) (main.deep:Nat) false (!main.called defs) (w2.alloc (.map #[] 0))):=bw.out.below ((AH _ w2).alloc (AG _) _)
 clear x1 bC
 have bq:W0.heap.size<=w2.heap.size:=ag.out.size
 generalize bE:World.alloc w2 _=W1 at*
 generalize hM:w2.heap.size=M at*
 clear bE hM ag bw
 have b8:=fY main
 have bL:Hid (W0.heap.size<=M):=bq
 clear bq
 have ca:=vp defs
 go_loopw [20] (λi wr=>∃(k m D:Nat) (N:Bool),i=.int .i64 k/\k<=defs.length/\Hid (Lk X (.slice a defs.length c) m D (twice (nm (defs.take k))) N wr)/\Hid (Gr X W0 wr)/\Hid (nb M k (nm (defs.take k)) wr)/\Hid (m+oq (defs.drop k)=main.cnt+oq defs)/\
  Hid (max D (iK (defs.drop k))=max main.deep (iK defs))/\Hid ((N|| !((defs.drop k).all λd=>d.kids.called defs))= !(main.called defs&&defs.all λd=>d.kids.called defs))/\Hid ((defs.drop k).all okD=defs.all okD)) (λi _=>defs.length - (intOf i).toNat)
 case atStart=>
  refine⟨0,main.cnt,main.deep,_,rfl,Nat.zero_le _,bN,bP,bM,rfl,rfl,?_,rfl⟩
  unfold Hid;rw[List.drop_zero,Bool.not_and]
 case round=>
  obtain⟨k,m,D,N,rfl,hk,HL,HG,HM,aj,ao,aG,aK⟩:=hrel
  have ae:Hid (Below w.heap.size w wr):=V.out.trans (HG.out.to_below (by have:=r.out;omega) (by omega))
  have b1:X+1<=wr.heap.size:=by have:=HG.out.size;have:=r.out;omega
  have ac:Hid (wr.heap[w.heap.size+1]? =some (.cells #[.int .i64 0] 37 (0,0))):=(HG.out.block _ (by have:=r.out;omega) (λe=>by injection e;omega)).trans aM.out
  have b4:=HM.out.lt
  have aB:D<=16777216:=by have:=ao.out;omega
  have bT:m<=16000000:=by have:=aj.out;omega
  by_cases aS:k<defs.length
  · have bU:(k:Int)<(defs.length:Int):=by omega
    obtain⟨d,ai⟩:∃d,defs[k]? =some d:=⟨_,List.getElem?_eq_getElem aS⟩
    obtain⟨rfl,aT,Y⟩:=HR.out (by intro e;rw[e]at aS;simp at aS)
    obtain⟨g0,g1,v,g2,bk⟩:=hZ.at _ _ _ _ _ ai (Y.kept (eL.of_below ae.out) _ _ _ aT)
    have ah:d∈defs:=List.mem_of_getElem? ai
    obtain⟨zn,zk⟩:=bH.out d ah
    have ce:d.kids.cnt+m<=16000000:=by have:=aj.out;rw[tn _ _ _ ai,gL]at this;omega
    have bv:=xa _ _ _ ai
    have al:=AF bv
    have an:=AF ah
    have I:=AF (tn _ _ _ ai)
    obtain⟨ad,cd,rfl,d1,d2,-⟩:=id bk
    have aE:Hid (∀W,Below w.heap.size w W->d8 (·<w.heap.size) W (.slice ad d.kids.len cd) d.kids):=λW hW=>by
     obtain⟨-,-,v',bs,bj⟩:=hZ.at _ _ _ _ _ ai (Y.kept (eL.of_below hW) _ _ _ aT)
     have e1:=(hW.cell (p:=⟨b,o+k*3+2,none⟩) aT)
     have e2:=(ae.out.cell (p:=⟨b,o+k*3+2,none⟩) aT)
     rw[e1,←e2,g2]at bs
     injection bs with e
     rw[e];exact bj
    have bd:=AF zk
    have bu:Hid (Gr X wr (wr.alloc (.cells #[.string d.name,.int .i64 d.pos,.slice ad d.kids.len cd] 70))):=Gr.alloc wr _
    have bA:Hid ((wr.alloc (.cells #[.string d.name,.int .i64 d.pos,.slice ad d.kids.len cd] 70)).heap[wr.heap.size]? =some (.cells #[.string d.name,.int .i64 d.pos,.slice ad d.kids.len cd] 70 (0,0))):=heap_alloc_new wr _
    have NC:=AF (λW=>iy d.name (by omega) W)
    have bD:d.name.size<=maxLen:=by unfold maxLen;omega
    have bn:k<=16777216:=by omega
    clear ai Y bk zk aS ah bv
    go_wp2_with fail
    refine(NC.out _).mono ?_
    rintro e w3 ⟨rfl,aU⟩
    have bz:Hid (Gr X wr w3):=bu.out.trans (Gr.below aU)
    have bh:Hid (w3.heap[wr.heap.size]? =some (.cells #[.string d.name,.int .i64 d.pos,.slice ad d.kids.len cd] 70 (0,0))):=(aU.block _ (by simp)).trans bA.out
    have aZ:Hid (Below wr.heap.size wr w3):=((AH wr.heap.size wr).alloc (AG _) _).trans (aU.mono (by simp))
    clear aU g0 g1 g2 NC bu bA
    have aX:Hid (w3.heap[w.heap.size+1]? =some (.cells #[.int .i64 0] 37 (0,0))):=(aZ.out.block _ (by omega)).trans ac.out
    have e0:w3.cell? ⟨w.heap.size+1,0,none⟩=some (.int .i64 0):=by rw[dW aX.out];rfl
    have ef:=dY aX.out
    have bZ:=dX aX.out
    cases aR:eK (bl d.name)with
    | false=>
      have aF:=AF aR
      clear aR
      go_wp2_with fail
      refine fk rfl rfl (d7 aX.out _) ⟨?_,?_⟩
      · rw[iH ⟨main,defs⟩ d an.out (by unfold okD;rw[aF.out];rfl)];rfl
      · exact(ae.out.trans (aZ.out.mono (by omega))).setCell (p:=⟨w.heap.size+1,0,none⟩) (by show w.heap.size<=w.heap.size+1;omega) _
    | true=>
      have aF:=AF aR
      clear aR e0 ef
      obtain⟨cc,ba,cg,cb,K,w4,a7,a8,Z,ay⟩:=(HM.out.gr bz.out (by omega)).store bn d.name bD
      rw[<-al.out]at a8
      have bf:=AF a8
      have b0:=AF Z
      have bR:=Z.size
      have aN:Hid (w4.heap[wr.heap.size]? =some (.cells #[.string d.name,.int .i64 d.pos,.slice ad d.kids.len cd] 70 (0,0))):=(Z.block _ (dX bh.out) (λe=>by injection e;omega)).trans bh.out
      have aW:Hid (Lk X (.slice (some ⟨b,o,none⟩) defs.length c) m D (twice (nm (defs.take k))) N w3):=HL.out.kept (aZ.out.block _ (by omega))
      have ak:Hid (Lk X (.slice (some ⟨b,o,none⟩) defs.length c) m D (twice (nm (defs.take k))) N w4):=aW.out.kept (Z.block _ (by have:=aZ.out.size;omega) (λe=>by injection e;omega))
      have bg:Hid (Gr X W0 w4):=(HG.out.trans bz.out).row Z bL.out
      have q3:w3.cell? ⟨wr.heap.size,0,none⟩=some (.string d.name):=by rw[dW bh.out];rfl
      have q4:w4.cell? ⟨wr.heap.size,0,none⟩=some (.string d.name):=by rw[dW aN.out];rfl
      have a6:w4.cell? ⟨wr.heap.size,2,none⟩=some (.slice ad d.kids.len cd):=by rw[dW aN.out];rfl
      clear a8 Z
      obtain⟨aw,av,au,ab,ar,aq⟩:=ak.out.cs
      have az:wr.heap.size≠X:=by omega
      cases A:twice (nm (defs.take k))with
      | true=>
        rw[A]at ab
        have aC:Hid (twice (nm (defs.take (k+1)))=true):=by unfold Hid;rw[al.out,fj,A];rfl
        clear A K
        go_upto_region 12 with(fail)
        have aJ:=AF (ak.out.set3 true)
        have G:=AF (bg.out.trans (Gr.set (bx:=X) w4 3 (.bool true)))
        have aH:=AF (bf.out.gr (Gr.set (bx:=X) w4 3 (.bool true)) (by omega))
        have bi:(w4.setCell ⟨X,3,none⟩ (.bool true)).cell? ⟨wr.heap.size,2,none⟩=some (.slice ad d.kids.len cd):=by rw[dW ((Below.heap_setCell _ _ _ _ (λe=>az e)).trans aN.out)];rfl
        clear aw av au ab ar aq q3 q4 a6 ba a7 ay ak aW
        generalize aA:World.setCell w4 ⟨X,3,none⟩ _=W5 at*
        clear aA
        have U:Hid (Below w.heap.size w W5):=V.out.trans (G.out.to_below (by have:=r.out;omega) (by omega))
        have C5:=AF (PK.out (d.kids.cnt+1) d.kids (Nat.lt_succ_self _) 1 false (.slice ad d.kids.len cd) m D true N W5 bd.out (by omega) (by omega) aB (GW.out _ U.out) (aY.out _ U.out) (aE.out _ U.out) aJ.out)
        go_wp2_with fail
        refine C5.out.mono ?_
        rintro e w6 ⟨af,h6⟩
        have E:=AF af
        clear af C5
        rcases h6 with⟨O,rfl,hL⟩ | ⟨O,rfl⟩
        rotate_left
        · have R:=AF O
          clear O
          go_wp2_with fail
          exact qu hX V.out (G.out.trans E.out) (by have:=r.out;omega) rfl rfl (((G.out.trans E.out).block _ (by have:=r.out;omega) (λe=>by injection e;omega)).trans aM.out) (iH _ d an.out (by unfold okD;rw[R.out];simp))
        have R:=AF O
        have aI:=AF hL
        clear O hL
        go_wp2_with fail
        go_roundw
        case rel=>
         refine⟨k+1,m+d.kids.cnt,max D (1+d.kids.deep),(N|| !d.kids.called defs),by go_num,by omega,?_,G.out.trans E.out,aH.out.gr E.out (by omega),?_,?_,?_,?_⟩
         · rw[aC.out];exact aI.out
         · unfold Hid;have:=aj.out;rw[I.out,gL]at this;omega
         · unfold Hid;have:=ao.out;rw[I.out,gJ]at this;omega
         · unfold Hid;have:=aG.out;rw[I.out,List.all_cons]at this;rw[<-this,Bool.not_and,Bool.or_assoc]
         · unfold Hid;have:=aK.out;rw[I.out,List.all_cons]at this;rw[<-this];unfold okD;rw[aF.out,R.out];rfl
        case measure=>simp[intOf];omega
      | false=>
        rw[A]at ab
        by_cases aa:(nm (defs.take k)).contains (bl d.name)=true
        · have aC:Hid (twice (nm (defs.take (k+1)))=true):=by unfold Hid;rw[al.out,fj,A,aa];rfl
          have bo:(1:Int)<cc+1:=by have:=K.2 aa;omega
          clear A K aa
          go_upto_region 12 with(fail)
          have aJ:=AF (ak.out.set3 true)
          have G:=AF (bg.out.trans (Gr.set (bx:=X) w4 3 (.bool true)))
          have aH:=AF (bf.out.gr (Gr.set (bx:=X) w4 3 (.bool true)) (by omega))
          have bi:(w4.setCell ⟨X,3,none⟩ (.bool true)).cell? ⟨wr.heap.size,2,none⟩=some (.slice ad d.kids.len cd):=by rw[dW ((Below.heap_setCell _ _ _ _ (λe=>az e)).trans aN.out)];rfl
          clear aw av au ab ar aq q3 q4 a6 ba a7 ay ak aW
          generalize aA:World.setCell w4 ⟨X,3,none⟩ _=W5 at*
          clear aA
          have U:Hid (Below w.heap.size w W5):=V.out.trans (G.out.to_below (by have:=r.out;omega) (by omega))
          have C5:=AF (PK.out (d.kids.cnt+1) d.kids (Nat.lt_succ_self _) 1 false (.slice ad d.kids.len cd) m D true N W5 bd.out (by omega) (by omega) aB (GW.out _ U.out) (aY.out _ U.out) (aE.out _ U.out) aJ.out)
          go_wp2_with fail
          refine C5.out.mono ?_
          rintro e w6 ⟨af,h6⟩
          have E:=AF af
          clear af C5
          rcases h6 with⟨O,rfl,hL⟩ | ⟨O,rfl⟩
          rotate_left
          · have R:=AF O
            clear O
            go_wp2_with fail
            exact qu hX V.out (G.out.trans E.out) (by have:=r.out;omega) rfl rfl (((G.out.trans E.out).block _ (by have:=r.out;omega) (λe=>by injection e;omega)).trans aM.out) (iH _ d an.out (by unfold okD;rw[R.out];simp))
          have R:=AF O
          have aI:=AF hL
          clear O hL
          go_wp2_with fail
          go_roundw
          case rel=>
           refine⟨k+1,m+d.kids.cnt,max D (1+d.kids.deep),(N|| !d.kids.called defs),by go_num,by omega,?_,G.out.trans E.out,aH.out.gr E.out (by omega),?_,?_,?_,?_⟩
           · rw[aC.out];exact aI.out
           · unfold Hid;have:=aj.out;rw[I.out,gL]at this;omega
           · unfold Hid;have:=ao.out;rw[I.out,gJ]at this;omega
           · unfold Hid;have:=aG.out;rw[I.out,List.all_cons]at this;rw[<-this,Bool.not_and,Bool.or_assoc]
           · unfold Hid;have:=aK.out;rw[I.out,List.all_cons]at this;rw[<-this];unfold okD;rw[aF.out,R.out];rfl
          case measure=>simp[intOf];omega
        · have aC:Hid (twice (nm (defs.take (k+1)))=false):=by unfold Hid;rw[al.out,fj,A];simpa using aa
          have bo:¬(1:Int)<cc+1:=by intro e;exact aa (K.1 (by omega))
          have b7:decide ((1:Int)<cc+1)=false:=decide_eq_false bo
          clear A K aa
          go_upto_region 12 with(fail)
          have aJ:=AF (ak.out.set3 false)
          have G:=AF (bg.out.trans (Gr.set (bx:=X) w4 3 (.bool false)))
          have aH:=AF (bf.out.gr (Gr.set (bx:=X) w4 3 (.bool false)) (by omega))
          have bi:(w4.setCell ⟨X,3,none⟩ (.bool false)).cell? ⟨wr.heap.size,2,none⟩=some (.slice ad d.kids.len cd):=by rw[dW ((Below.heap_setCell _ _ _ _ (λe=>az e)).trans aN.out)];rfl
          clear aw av au ab ar aq q3 q4 a6 ba a7 ay ak aW
          generalize aA:World.setCell w4 ⟨X,3,none⟩ _=W5 at*
          clear aA
          have U:Hid (Below w.heap.size w W5):=V.out.trans (G.out.to_below (by have:=r.out;omega) (by omega))
          have C5:=AF (PK.out (d.kids.cnt+1) d.kids (Nat.lt_succ_self _) 1 false (.slice ad d.kids.len cd) m D false N W5 bd.out (by omega) (by omega) aB (GW.out _ U.out) (aY.out _ U.out) (aE.out _ U.out) aJ.out)
          go_wp2_with fail
          refine C5.out.mono ?_
          rintro e w6 ⟨af,h6⟩
          have E:=AF af
          clear af C5
          rcases h6 with⟨O,rfl,hL⟩ | ⟨O,rfl⟩
          rotate_left
          · have R:=AF O
            clear O
            go_wp2_with fail
            exact qu hX V.out (G.out.trans E.out) (by have:=r.out;omega) rfl rfl (((G.out.trans E.out).block _ (by have:=r.out;omega) (λe=>by injection e;omega)).trans aM.out) (iH _ d an.out (by unfold okD;rw[R.out];simp))
          have R:=AF O
          have aI:=AF hL
          clear O hL
          go_wp2_with fail
          go_roundw
          case rel=>
           refine⟨k+1,m+d.kids.cnt,max D (1+d.kids.deep),(N|| !d.kids.called defs),by go_num,by omega,?_,G.out.trans E.out,aH.out.gr E.out (by omega),?_,?_,?_,?_⟩
           · rw[aC.out];exact aI.out
           · unfold Hid;have:=aj.out;rw[I.out,gL]at this;omega
           · unfold Hid;have:=ao.out;rw[I.out,gJ]at this;omega
           · unfold Hid;have:=aG.out;rw[I.out,List.all_cons]at this;rw[<-this,Bool.not_and,Bool.or_assoc]
           · unfold Hid;have:=aK.out;rw[I.out,List.all_cons]at this;rw[<-this];unfold okD;rw[aF.out,R.out];rfl
          case measure=>simp[intOf];omega
  · have b6:¬(k:Int)<(defs.length:Int):=by omega
    have J:defs.drop k=[]:=List.drop_of_length_le (by omega)
    have ax:defs.take k=defs:=List.take_of_length_le (by omega)
    have hm:m=main.cnt+oq defs:=by have:=aj.out;rw[J]at this;simpa[oq]using this
    have hD:D=max main.deep (iK defs):=by have:=ao.out;rw[J]at this;simpa[iK]using this
    have hN:N= !(main.called defs&&defs.all λd=>d.kids.called defs):=by have:=aG.out;rw[J]at this;simpa using this
    have br:defs.all okD=true:=by have:=aK.out;rw[J]at this;simpa using this.symm
    have bQ:Hid ((Tm.check ⟨main,defs⟩)=ud m D (twice (nm defs)) N (Tm.src ⟨main,defs⟩).length):=by
     unfold Hid;rw[tE ⟨main,defs⟩ HF.out br,hm,hD,hN];rfl
    rw[ax]at HL
    clear J ax hm hD hN br HM aj ao aG aK PK
    obtain⟨aw,av,au,ab,ar,aq⟩:=HL.out.cs
    have e0:wr.cell? ⟨w.heap.size+1,0,none⟩=some (.int .i64 0):=by rw[dW ac.out];rfl
    have ef:=dY ac.out
    have bG:=dX ac.out
    have bt:Hid (wr.heap[w.heap.size]? =some (.cells #[.slice am main.len cm,.slice a defs.length c] 25 (0,0))):=(HG.out.block _ (by have:=r.out;omega) (λe=>by injection e;omega)).trans be.out
    have t0:wr.cell? ⟨w.heap.size,0,none⟩=some (.slice am main.len cm):=by rw[dW bt.out];rfl
    have t1:wr.cell? ⟨w.heap.size,1,none⟩=some (.slice a defs.length c):=by rw[dW bt.out];rfl
    have ap:Hid (∀(v:Nat) (W:World),Below w.heap.size w W->ud m D (twice (nm defs)) N (Tm.src ⟨main,defs⟩).length=v->mt ⟨main,defs⟩ w (.returned (.int .i64 (v:Nat))) (W.setCell ⟨w.heap.size+1,0,none⟩ (.int .i64 (v:Nat)))):=λv W hW hv=>⟨by rw[bQ.out,hv],hW.setCell (p:=⟨w.heap.size+1,0,none⟩) (by show w.heap.size<=w.heap.size+1;omega) _⟩
    by_cases aQ:64<D
    · have f1:(64:Int)<(D:Int):=by omega
      have HQ:=AF aQ
      clear aQ
      go_wp2_with fail
      exact fk rfl rfl (d7 ac.out _) (ap.out 193 _ ae.out (by unfold ud;rw[if_pos HQ.out]))
    have f1:¬(64:Int)<(D:Int):=by omega
    have aD:=AF aQ
    clear aQ
    cases A:twice (nm defs)with
    | true=>
      rw[A]at ab
      have HQ:=AF A
      clear A
      go_wp2_with fail
      exact fk rfl rfl (d7 ac.out _) (ap.out 194 _ ae.out (by unfold ud;rw[if_neg aD.out,if_pos HQ.out]))
    | false=>
      rw[A]at ab
      have aV:=AF A
      clear A
      cases N with
      | true=>
        go_wp2_with fail
        exact fk rfl rfl (d7 ac.out _) (ap.out 195 _ ae.out (by unfold ud;rw[if_neg aD.out,if_neg (by rw[aV.out];decide),if_pos rfl]))
      | false=>
        by_cases aP:1024<m
        · have f4:(1024:Int)<(m:Int):=by omega
          have HQ:=AF aP
          clear aP
          go_wp2_with fail
          exact fk rfl rfl (d7 ac.out _) (ap.out 196 _ ae.out (by unfold ud;rw[if_neg aD.out,if_neg (by rw[aV.out];decide),if_neg (by decide),if_pos (.inl HQ.out)]))
        · have f4:¬(1024:Int)<(m:Int):=by omega
          have bJ:=AF aP
          clear aP
          go_wp2_with fail
          refine(SC.out _ ae.out).mono ?_
          rintro e w7 ⟨rfl,bc⟩
          have aL:=AF ((bc.block _ bG).trans ac.out)
          have bB:Hid (Below w.heap.size w w7):=ae.out.trans (bc.mono (by omega))
          clear bc e0 ef t0 t1 aw av au ab ar aq
          have e0:w7.cell? ⟨w.heap.size+1,0,none⟩=some (.int .i64 0):=by rw[dW aL.out];rfl
          have ef:=dY aL.out
          have bY:=dX aL.out
          by_cases aO:16384<(Tm.src ⟨main,defs⟩).length
          · have f5:(16384:Int)<((mkB (Tm.src ⟨main,defs⟩)).size:Int):=by omega
            have HQ:=AF aO
            clear aO bm
            go_wp2_with fail
            exact fk rfl rfl (d7 aL.out _) (ap.out 196 _ bB.out (by unfold ud;rw[if_neg aD.out,if_neg (by rw[aV.out];decide),if_neg (by decide),if_pos (.inr HQ.out)]))
          · have f5:¬(16384:Int)<((mkB (Tm.src ⟨main,defs⟩)).size:Int):=by omega
            have HQ:=AF aO
            clear aO bm
            go_wp2_with fail
            exact fk rfl rfl (d7 aL.out _) (ap.out 0 _ bB.out (by unfold ud;rw[if_neg aD.out,if_neg (by rw[aV.out];decide),if_neg (by decide),if_neg (by intro e;exact e.elim bJ.out HQ.out)]))
end Go.Proofs.YtepcpgdfbaklfaaGreatDoor
