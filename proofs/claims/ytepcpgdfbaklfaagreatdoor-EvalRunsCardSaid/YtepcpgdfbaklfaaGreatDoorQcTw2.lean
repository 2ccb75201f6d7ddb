/- tmpl.write at a part: kinds of class 0. The condition: as XTw1's. -/
import Derived.Test.YtepcpgdfbaklfaaGreatDoorQcTbd
set_option maxRecDepth 100000
set_option maxHeartbeats 40000000
set_option linter.unusedSimpArgs false
set_option linter.unusedVariables false
namespace Go.Proofs.YtepcpgdfbaklfaaGreatDoor
open Go.RowKit Go.Shelf
attribute [local go_sem ↓] Go.wp_at_zero Go.wp_at_succ
theorem uo (n:Nat)(IH:Hid (jD n))(t:Pt)(hn:t.cnt<n+1)(B J:Nat)(l:By)(c:Nat)(w:World)(O:Hid t.sm)(A:t.cnt<=16777216)(G:Hid (l.length+(t.src false).length<=16777216))(h1:t.len<=c)(h2:c<=maxLen)(M:B<=J/\J<w.heap.size)
 (W:Hid (Bdf B J l w)) (HB:Hid (B<=w.heap.size)) (b o:Nat) (K:t.len<=t.cnt):(fJ n IH t hn B J l c w O A G h1 h2 M W HB b o K).1 0:=by
 unfold fJ
 intro aa W1 bQ HQ wr u5 u6 u7 bG bF bE bD bC bB bA bz bw bv bu bt bs br bq bp bn bm bk bj bi bh bg bf be bd bc ba a8 a7 a6 aZ aY aX aW aV aU aT aS aR aQ aP aO aN aM aL aK aJ aI aH aG aF aE aD aC aB aA az ay ax aw av au ar aq ap ao am al aj ai ah ag ad ac ab k l' af bU N h kd el r bL HE bN bP g0 g1 g2 g3 g5 ak ck g6 k1 k2 ae ce g7 e1 e2 bI m s0 bM bH bO E bT KC EC AC bR U bK bX bW I an cn g4 PC bS Z Y n1 n2 hu
 have bJ:=(nT hu).2.2.2.2 rfl
 have f1:((h.kind:Int)==1)=false:=beq_eq_false_iff_ne.2 (by omega)
 have f2:((h.kind:Int)==2)=false:=beq_eq_false_iff_ne.2 (by omega)
 have f3:((h.kind:Int)==3)=false:=beq_eq_false_iff_ne.2 (by omega)
 have f4:((h.kind:Int)==4)=false:=beq_eq_false_iff_ne.2 (by omega)
 have f5:((h.kind:Int)==5)=false:=beq_eq_false_iff_ne.2 (by omega)
 have R:Hid (eO h kd el af=[]):=by unfold Hid eO;rw[if_neg (by omega),if_neg (by omega),if_neg (by omega),if_neg (by omega)]
 go_wp2_with fail
 have V:Hid (l'++r.src (decide (h.kind=1))=l++t.src false):=by
  have:=HE.out
  rw[fp]at this
  unfold Hid;rw[<-this,R.out];simp
 have bY:=I.out
 go_roundw
 case rel=>exact⟨k+1,_,r,_,by go_num,(by have:=U.out;omega),Y.out,N.out.trans Z.out,(by first | exact E | exact λh=>⟨trivial,(E.out h).2⟩),m,by omega,V,I⟩
 case measure=>simp[intOf];omega
theorem um (n:Nat)(IH:Hid (jD n))(t:Pt)(hn:t.cnt<n+1)(B V:Nat)(l:By)(c:Nat)(w:World)(aB:Hid t.sm)(aj:t.cnt<=16777216)(ao:Hid (l.length+(t.src false).length<=16777216))(h1:t.len<=c)(h2:c<=maxLen)(aw:B<=V/\V<w.heap.size)
 (aC:Hid (Bdf B V l w)) (HB:Hid (B<=w.heap.size)) (b o:Nat) (au:t.len<=t.cnt):(fJ n IH t hn B V l c w aB aj ao h1 h2 aw aC HB b o au).1 1:=by
 unfold fJ
 intro aG W1 co HQ wr u5 u6 u7 b7 b6 b5 b4 b3 b2 b1 b0 bZ bY bX bW bU bT bS bR bQ bP bO bN bM bL bK bJ bI bH bG bF bE bD bC bB bA bz bw bv bu bt bs br bq bp bn bm bk bj bi bh bg bf be bd bc ba a8 a7 a6 aZ aY aX aW aV aU aT aS aR aQ aP aO aN aM aL aK aJ aI aH k l' af cq ab h kd el r ci HE cm az g0 g1 g2 g3 g5 ak ck g6 k1 k2 ae ce g7 e1 e2 cc N s0 cj ca ay K Z KC EC AC ac ag cd aF aE M an cn g4 PC ad m aa n1 n2 hu
 have Y:h.kind=1:=(nT hu).1 rfl
 have f1:((h.kind:Int)==1)=true:=by rw[Y];rfl
 have f2:((h.kind:Int)==2)=false:=beq_eq_false_iff_ne.2 (by omega)
 have f3:((h.kind:Int)==3)=false:=beq_eq_false_iff_ne.2 (by omega)
 have f4:((h.kind:Int)==4)=false:=beq_eq_false_iff_ne.2 (by omega)
 have f5:((h.kind:Int)==5)=false:=beq_eq_false_iff_ne.2 (by omega)
 have G:Hid (eO h kd el af=(if af then js else[])++bl h.text):=if_pos Y
 have cp:=AF Y
 clear Y hu
 go_upto_region 7 with(fail)
 clear g0 g1 g2 g3 g4 g5 g6 g7
 unfold eo at ad m aa
 have aA:=AF (az.out.trans m.out)
 generalize ax:World.alloc wr _=W at*
 clear ax
 obtain⟨p0,p2,p3,p4,p5,p6,p7⟩:=ad.out _ (Wr.refl _ _ _)
 have am:B<=W.heap.size:=Nat.le_trans ay m.out.size
 rcases Nat.eq_zero_or_pos k with hz | hp
 · have J:=aE.out hz
   subst J
   have b8:¬(0:Int)<(k:Int):=by omega
   clear hz
   go_upto_region 9 with(fail)
   have ai:=ac.out W m.out
   have TC:=AF (eN B V l' h.text W aa.out (by have:=Z.out;rw[G.out]at this;simp[bl]at this ⊢;omega) (by have:=(m.out).size;omega))
   go_wp2_with (go_at_call 67;refine TC.out.mono ?_;rintro e w2 ⟨rfl,E,A⟩;have U:=AF E;have O:=AF ((m.out).trans A);clear E A)
   have R:Hid ((l'++bl h.text)++r.src (decide (h.kind=1))=l++t.src false):=by
    have:=HE.out
    rw[fp]at this
    unfold Hid;rw[<-this,G.out];simp
   have aq:=M.out
   go_roundw
   case rel=>exact⟨k+1,_,r,_,by go_num,(by have:=ag.out;omega),U.out,ab.out.trans O.out,(by first | exact K | exact λh=>⟨trivial,(K.out h).2⟩),N,by omega,R,M⟩
   case measure=>simp[intOf];omega
 · obtain⟨j,hj⟩:∃j,k=j+1:=⟨k - 1,by omega⟩
   obtain⟨q,hq,J⟩:=aF.out _ aA.out j hj
   have ch:(k:Int) - 1=(j:Int):=by omega
   have cb:(0:Int)<(k:Int):=by omega
   have cg:(j:Int)<(t.len:Int):=by omega
   clear hj hp
   cases af with
   | false=>
     have ar:((q:Int)==1)=false:=beq_eq_false_iff_ne.2 (by have:=of_decide_eq_false J.symm;omega)
     clear J
     go_upto_region 9 with(fail)
     have ai:=ac.out W m.out
     have TC:=AF (eN B V l' h.text W aa.out (by have:=Z.out;rw[G.out]at this;simp[bl]at this ⊢;omega) (by have:=(m.out).size;omega))
     go_wp2_with (go_at_call 67;refine TC.out.mono ?_;rintro e w2 ⟨rfl,E,A⟩;have U:=AF E;have O:=AF ((m.out).trans A);clear E A)
     have R:Hid ((l'++bl h.text)++r.src (decide (h.kind=1))=l++t.src false):=by
      have:=HE.out
      rw[fp]at this
      unfold Hid;rw[<-this,G.out];simp
     have aq:=M.out
     go_roundw
     case rel=>exact⟨k+1,_,r,_,by go_num,(by have:=ag.out;omega),U.out,ab.out.trans O.out,(by first | exact K | exact λh=>⟨trivial,(K.out h).2⟩),N,by omega,R,M⟩
     case measure=>simp[intOf];omega
   | true=>
     have ar:((q:Int)==1)=true:=beq_iff_eq.2 (by have:=of_decide_eq_true J.symm;omega)
     clear J
     have A1:Hid (Calls Tryz.prog 110 #[.slice (some ⟨W.heap.size,0,none⟩) 1 1,.pointer (some ⟨w.heap.size,0,none⟩)] (W.alloc (.cells #[.string ⟨#[47,42,42,47]⟩] 9)) λe w'=>e=.returned (.tuple #[])/\Bdf B V (l'++js) w'/\Wr B V (W.alloc (.cells #[.string ⟨#[47,42,42,47]⟩] 9)) w'):=
      AC.out _ l' (m.out.trans (Wr.alloc _ _ am)) (aa.out.below ((AH _ W).alloc (AG _) _)) [⟨#[47,42,42,47]⟩] _ (λj x hj=>by
       have av:j=0:=by have:=(List.getElem?_eq_some_iff.1 hj).1;simp at this;omega
       subst av;simp at hj;subst hj;simp[World.cell?_alloc_new]) (by simp) (by decide) (by have:=Z.out;rw[G.out]at this;simp[js,fh,bls,bl]at this ⊢;omega)
     have ap:=AF (Wr.alloc (b:=V) W (.cells #[.string ⟨#[47,42,42,47]⟩] 9) am)
     go_upto_region 9 with(go_at_call 110;refine A1.out.mono ?_;rintro e w1 ⟨rfl,al,ah⟩;have aD:=AF al;have I:=AF (ap.out.trans ah);clear al ah p0 p2 p3 p4 p5 p6 p7;obtain⟨p0,p2,p3,p4,p5,p6,p7⟩:=ad.out _ I.out)
     have ai:=ac.out w1 (m.out.trans I.out)
     have TC:=AF (eN B V (l'++js) h.text w1 aD.out (by have:=Z.out;rw[G.out]at this;simp[bl]at this ⊢;omega) (by have:=((m.out.trans I.out)).size;omega))
     go_wp2_with (go_at_call 67;refine TC.out.mono ?_;rintro e w2 ⟨rfl,E,A⟩;have U:=AF E;have O:=AF (((m.out.trans I.out)).trans A);clear E A)
     have R:Hid (((l'++js)++bl h.text)++r.src (decide (h.kind=1))=l++t.src false):=by
      have:=HE.out
      rw[fp]at this
      unfold Hid;rw[<-this,G.out];simp
     have aq:=M.out
     go_roundw
     case rel=>exact⟨k+1,_,r,_,by go_num,(by have:=ag.out;omega),U.out,ab.out.trans O.out,(by first | exact K | exact λh=>⟨trivial,(K.out h).2⟩),N,by omega,R,M⟩
     case measure=>simp[intOf];omega
theorem ul (n:Nat)(IH:Hid (jD n))(t:Pt)(hn:t.cnt<n+1)(B I:Nat)(l:By)(c:Nat)(w:World)(al:Hid t.sm)(O:t.cnt<=16777216)(Z:Hid (l.length+(t.src false).length<=16777216))(h1:t.len<=c)(h2:c<=maxLen)(ad:B<=I/\I<w.heap.size)
 (ap:Hid (Bdf B I l w)) (HB:Hid (B<=w.heap.size)) (b o:Nat) (ac:t.len<=t.cnt):(fJ n IH t hn B I l c w al O Z h1 h2 ad ap HB b o ac).1 2:=by
 unfold fJ
 intro au W1 b3 HQ wr u5 u6 u7 bU bT bS bR bQ bP bO bN bM bL bK bJ bI bH bG bF bE bD bC bB bA bz bw bv bu bt bs br bq bp bn bm bk bj bi bh bg bf be bd bc ba a8 a7 a6 aZ aY aX aW aV aU aT aS aR aQ aP aO aN aM aL aK aJ aI aH aG aF aE aD aC aB aA az ay ax aw av k l' af b6 ai h kd el r bZ HE b1 b2 g0 g1 g2 g3 g5 ak ck g6 k1 k2 ae ce g7 e1 e2 bX N s0 b0 bW U V Y KC EC AC b4 am bY b8 b7 ab an cn g4 PC W E aa n1 n2 hu
 have A:h.kind=2:=(nT hu).2.1 rfl
 have f1:((h.kind:Int)==1)=false:=beq_eq_false_iff_ne.2 (by omega)
 have f2:((h.kind:Int)==2)=true:=by rw[A];rfl
 have f3:((h.kind:Int)==3)=false:=beq_eq_false_iff_ne.2 (by omega)
 have f4:((h.kind:Int)==4)=false:=beq_eq_false_iff_ne.2 (by omega)
 have f5:((h.kind:Int)==5)=false:=beq_eq_false_iff_ne.2 (by omega)
 have J:Hid (eO h kd el af=bra++AJ h.root (bls h.names)++ket):=by unfold Hid eO;rw[if_neg (by omega),if_pos A]
 have b5:=AF A
 clear A hu
 go_upto_region 11 with(fail)
 clear g0 g1 g2 g3 g4 g5 g6 g7
 unfold eo at W E aa
 generalize ag:World.alloc wr _=W0 at*
 clear ag
 obtain⟨p0,p2,p3,p4,p5,p6,p7⟩:=W.out _ (Wr.refl _ _ _)
 have ah:B<=W0.heap.size:=Nat.le_trans U E.out.size
 have K:(AJ h.root (bls h.names)).length<=16777216:=by have:=Y.out;rw[J.out]at this;simp at this;omega
 have P1:=AF (PC.out W0 E.out K)
 go_wp2_with fail
 refine P1.out.mono ?_
 rintro e w1 ⟨rfl,G⟩
 have m:=AF (E.out.trans (Wr.below (b:=I) G ah))
 have ar:=AF (aa.out.below G)
 clear G p0 p2 p3 p4 p5 p6 p7
 have A1:Hid (Calls Tryz.prog 110 #[.slice (some ⟨(w1).heap.size,0,none⟩) 1 1,.pointer (some ⟨w.heap.size,0,none⟩)] ((w1).alloc (.cells #[.string (mkB (AJ h.root (bls h.names)))] 9)) λe w'=>e=.returned (.tuple #[])/\Bdf B I (l'++(bra++AJ h.root (bls h.names)++ket)) w'/\Wr B I (w1) w'):=iT AC.out (w1) (l') m.out ar.out (Nat.le_trans U (m.out).size) [(mkB (AJ h.root (bls h.names)))] (by simp) (by have:=Y.out;rw[J.out]at this;simp[fh,bls,bl,mkB,eY,kIf,eu,fX,jS,eI,gx,bra,ket]at this ⊢;omega)
 go_wp2_with fail
 refine A1.out.mono ?_
 rintro e w2 ⟨rfl,R,M⟩
 have aq:=AF R
 have aj:=AF (m.out.trans M)
 clear R M
 go_wp2_with fail
 have ao:Hid ((l'++(bra++AJ h.root (bls h.names)++ket))++r.src (decide (h.kind=1))=l++t.src false):=by
  have:=HE.out
  rw[fp]at this
  unfold Hid;rw[<-this,J.out];simp
 have ca:=ab.out
 go_roundw
 case rel=>exact⟨k+1,_,r,_,by go_num,(by have:=am.out;omega),aq.out,ai.out.trans aj.out,(by first | exact V | exact λh=>⟨trivial,(V.out h).2⟩),N,by omega,ao,ab⟩
 case measure=>simp[intOf];omega
theorem uh (n:Nat)(IH:Hid (jD n))(t:Pt)(hn:t.cnt<n+1)(B A:Nat)(l:By)(c:Nat)(w:World)(am:Hid t.sm)(R:t.cnt<=16777216)(aa:Hid (l.length+(t.src false).length<=16777216))(h1:t.len<=c)(h2:c<=maxLen)(ah:B<=A/\A<w.heap.size)
 (ar:Hid (Bdf B A l w)) (HB:Hid (B<=w.heap.size)) (b o:Nat) (ag:t.len<=t.cnt):(fJ n IH t hn B A l c w am R aa h1 h2 ah ar HB b o ag).1 5:=by
 unfold fJ
 intro aw W1 b5 HQ wr u5 u6 u7 bX bW bU bT bS bR bQ bP bO bN bM bL bK bJ bI bH bG bF bE bD bC bB bA bz bw bv bu bt bs br bq bp bn bm bk bj bi bh bg bf be bd bc ba a8 a7 a6 aZ aY aX aW aV aU aT aS aR aQ aP aO aN aM aL aK aJ aI aH aG aF aE aD aC aB aA az ay ax k l' af b8 aj h kd el r b1 HE b3 b4 g0 g1 g2 g3 g5 ak ck g6 k1 k2 ae ce g7 e1 e2 bZ O s0 b2 bY W Y Z KC EC AC b6 ap b0 cb ca ad an cn g4 PC K I ac n1 n2 hu
 have E:h.kind=5:=(nT hu).2.2.2.1 rfl
 have f1:((h.kind:Int)==1)=false:=beq_eq_false_iff_ne.2 (by omega)
 have f2:((h.kind:Int)==2)=false:=beq_eq_false_iff_ne.2 (by omega)
 have f3:((h.kind:Int)==3)=false:=beq_eq_false_iff_ne.2 (by omega)
 have f4:((h.kind:Int)==4)=false:=beq_eq_false_iff_ne.2 (by omega)
 have f5:((h.kind:Int)==5)=true:=by rw[E];rfl
 have J:Hid (eO h kd el af=bra++(eY++32::bl h.name++32::AJ h.root (bls h.names))++ket):=by unfold Hid eO;rw[if_neg (by omega),if_neg (by omega),if_pos E]
 have b7:=AF E
 clear E hu
 go_upto_region 13 with(fail)
 clear g0 g1 g2 g3 g4 g5 g6 g7
 unfold eo at K I ac
 generalize ai:World.alloc wr _=W0 at*
 clear ai
 obtain⟨p0,p2,p3,p4,p5,p6,p7⟩:=K.out _ (Wr.refl _ _ _)
 have V:B<=W0.heap.size:=Nat.le_trans W I.out.size
 have M:(AJ h.root (bls h.names)).length<=16777216:=by have:=Z.out;rw[J.out]at this;simp at this;omega
 have P1:=AF (PC.out W0.drew (I.out.trans (Wr.drew _)) M)
 have ab:Hid (Bdf B A l' W0.drew):=ac.out.below ⟨rfl,rfl,rfl,AG _,λ_ _=>rfl⟩
 go_region_with (first
  | (go_at_call 112;refine P1.out.mono ?_;rintro e w1 ⟨rfl,G⟩;have m:=AF ((I.out.trans (Wr.drew (b:=A) _)).trans (Wr.below (b:=A) G V));have ao:=AF (K.out _ ((Wr.drew _).trans (Wr.below (b:=A) G V)));have av:=AF (ab.out.below G);clear G p0 p2 p3 p4 p5 p6 p7;obtain⟨p0,p2,p3,p4,p5,p6,p7⟩:=ao.out;have A1:Hid (Calls Tryz.prog 110 #[.slice (some ⟨(w1).heap.size,0,none⟩) 3 3,.pointer (some ⟨w.heap.size,0,none⟩)] ((w1).alloc (.cells #[.string ⟨#[99,97,108,108]⟩,.string h.name,.string (mkB (AJ h.root (bls h.names)))] 9)) λe w'=>e=.returned (.tuple #[])/\Bdf B A (l'++(bra++(eY++32::bl h.name++32::AJ h.root (bls h.names))++ket)) w'/\Wr B A (w1) w'):=iT AC.out (w1) (l') m.out av.out (Nat.le_trans W (m.out).size) [⟨#[99,97,108,108]⟩,h.name,(mkB (AJ h.root (bls h.names)))] (by simp) (by have:=Z.out;rw[J.out]at this;simp[fh,bls,bl,mkB,eY,kIf,eu,fX,jS,eI,gx,bra,ket]at this ⊢;omega))
  | (go_at_call 110;refine A1.out.mono ?_;rintro e w2 ⟨rfl,U,N⟩;have au:=AF U;have al:=AF (m.out.trans N);clear U N))
 all_goals
  go_wp2_with fail
  have aq:Hid ((l'++(bra++(eY++32::bl h.name++32::AJ h.root (bls h.names))++ket))++r.src (decide (h.kind=1))=l++t.src false):=by
   have:=HE.out
   rw[fp]at this
   unfold Hid;rw[<-this,J.out];simp
  have cc:=ad.out
  go_roundw
  case rel=>exact⟨k+1,_,r,_,by go_num,(by have:=ap.out;omega),au.out,aj.out.trans al.out,(by first | exact Y | exact λh=>⟨trivial,(Y.out h).2⟩),O,by omega,aq,ad⟩
  case measure=>simp[intOf];omega
end Go.Proofs.YtepcpgdfbaklfaaGreatDoor
