/- The contract of the reader's define. The condition: the words take at most 2 to the 24th bytes; no list is longer than 2 to the 24th. -/
import Derived.Test.YtepcpgdfbaklfaaGreatDoorQcTma
import Derived.Test.YtepcpgdfbaklfaaGreatDoorQcLibv
set_option maxRecDepth 100000
set_option maxHeartbeats 1000000
set_option linter.unusedVariables false
namespace Go.Proofs.YtepcpgdfbaklfaaGreatDoor
open Go.RowKit Go.Shelf
theorem fw.drow {ok:Nat->Prop}{w:World}:∀(t:List Df) (cs:List Value) (b o:Nat),fw ok w t cs->(∀j u,cs[j]? =some u->w.cell? ⟨b,o+j,none⟩=some u)->hZ ok w t b o:=by
 intro t
 induction t with
 | nil=>intro cs b o _ _;exact trivial
 | cons d r E=>
   rintro cs b o ⟨v,A,rfl,J,I⟩ m
   refine⟨m 0 _ rfl,m 1 _ rfl,⟨v,m 2 _ rfl,J⟩,E A b (o+3) I (λj u G=> ?_)⟩
   have:=m (3+j) u (by rw[List.getElem?_append_right (by simp)];simpa using G)
   rwa[show o+(3+j)=o+3+j by omega]at this
def OkD (m:Nat->Nat)(w:World)(b:Nat):Prop:=(m b=0\/m b=3)/\b<w.heap.size
theorem hZ.monoD {ok ok':Nat->Prop}{w:World}{l:List Df}{b o:Nat}(h:hZ ok w l b o)(m:∀b,ok b->ok' b):hZ ok' w l b o:=hZ.mono m l b o h
theorem rH.defs {B:Nat}{o:Nat->Nat}{w:World}{J:Value}{l:List Df}(h:rH B o w J l):fU (OkD o w) w J l:=by
 obtain⟨cs,⟨U,R⟩,O⟩:=h
 rcases U.2 with⟨rfl,N⟩ | ⟨g,cap,V,rfl,hB,G,E,m,M,K⟩
 · cases l with
   | nil=>exact fU.nil _ _
   | cons d r=>simp at N
 · refine⟨_,_,rfl,E,m,λ_=>⟨g,0,rfl,⟨.inr (R g rfl),dX G⟩,(fw.drow l cs g 0 O (λj u A=> ?_)).monoD (λb I=>⟨.inl I.1,I.2.1⟩)⟩⟩
   rw[Nat.zero_add,dW G,←Array.getElem?_toList]
   rw[<-K,List.getElem?_take]at A
   split at A
   · exact A
   · cases A
def vj (x:By)(at_:Nat)(s:St):Rs St:=
 if eK x=false\/s.rest≠[]then .err 190 at_
 else if eE s.defs x then .err 194 at_
 else s.begin ⟨6,at_,false,[],x,false,.nil,.nil⟩ at_
theorem j8 (B q bx:Nat)(hq:q<=16777216)(w0 x:By)(hx:x.length<=16777216)(at_:Nat)(ag:at_<=16777216)(s:St)(E:Nat->Nat)(bs:List Nat)(sv dv cv wv:Value)(w:World)(N:RdG B q bx s E bs sv dv cv w)
 (ae:Strs (Ok E w) w wv [mkB w0,mkB x]):
 Calls Tryz.prog 84 #[.pointer (some ⟨bx,0,none⟩),wv,.int .i64 (at_:Nat)] w (ew B q bx w (vj x at_ s)):=by
 obtain⟨c0,c1,c2,c3,c4,fz⟩:=N.cells
 obtain⟨a,c,rfl,h1,h2,h3⟩:=ae
 obtain⟨b,o,rfl,ak,aa⟩:=h3 (by simp)
 have d1:w.cell? ⟨b,o+1,none⟩=some (.string (mkB x)):=aa 1 _ rfl
 obtain⟨fb,ap,g,k,-,hl,rfl,an,am,-,-,-,-⟩:=N.top
 have U:=AF (iy (mkB x) (by rw[fi];omega) w)
 rw[pM]at U
 have af:=N.l3
 have al:=N.l2
 have DE:=AF (λ(w1:World) (hb:Below w.heap.size w w1)=>gm (OkD E w1) s.defs (by omega) (mkB x) dv w1
  ((N.same (q':=q) (show gA (λ_=>True) E E w w1 from⟨hb.size,λb h _=>⟨rfl,hb.block b h⟩⟩) (λ_=>trivial) (AG q)).df.defs) (λb hb=>hb.2))
 rw[pM]at DE
 obtain⟨X,hX⟩:∃X,mkB x=X:=⟨_,rfl⟩
 rw[hX]at d1 U DE
 have HG:=AF N
 have J:Hid (B<=w.heap.size):=N.hB
 have ao:(1:Int)<(2:Nat):=by omega
 have ah:=AF hX
 have W:=ej d1
 have A:=dX N.hx
 clear N hX aa h3 h1 c1 c3 c4 af
 cases K:eK x with
 | false=>
   have V:Hid (vj x at_ s=.err 190 at_):=if_pos (.inl K)
   rw[K]at U
   clear K
   go_enter Tryz.func84,Tryz.ntmps84
   go_wp2_with fail
   refine U.out.mono ?_
   rintro e w1 ⟨rfl,m⟩
   have r:=AF (m.mono J.out)
   clear m
   go_wp2_with fail
   rw[V.out]
   exact⟨rfl,r.out,rfl⟩
 | true=>
   rw[K]at U
   by_cases R:s.rest=[]
   · have t1:¬(1:Int)<(s.rest.length:Int)+1:=by rw[R];simp
     cases Y:eE s.defs x with
     | true=>
       have V:Hid (vj x at_ s=.err 194 at_):=by unfold Hid vj;rw[if_neg (by simp[K,R]),if_pos Y]
       rw[Y]at DE
       clear K Y R
       go_enter Tryz.func84,Tryz.ntmps84
       go_wp2_with fail
       refine U.out.mono ?_
       rintro e w1 ⟨rfl,m⟩
       have r:=AF m
       have e0:=(m.cell (p:=⟨bx,0,none⟩) A).trans c0
       have e2:=(m.cell (p:=⟨bx,2,none⟩) A).trans c2
       have ed:=(m.cell (p:=⟨b,o+1,none⟩) W).trans d1
       clear m
       go_wp2_with fail
       go_region_with (go_at_call 48;refine(DE.out _ (r.out.trans ((Sl.drew _).below _))).mono ?_;rintro e w2 ⟨rfl,I⟩)
       all_goals
        have aj:=AF (((r.out.mono J.out).trans ((Sl.drew w1).below B)).trans (I.mono (Nat.le_trans J.out r.out.size)))
        clear I
        go_wp2_with fail
        rw[V.out]
        exact⟨rfl,aj.out,rfl⟩
     | false=>
       obtain⟨F,hF⟩:∃F:Fr,(⟨6,at_,false,[],x,false,.nil,.nil⟩:Fr)=F:=⟨_,rfl⟩
       have V:Hid (vj x at_ s=s.begin F at_):=by unfold Hid vj;rw[if_neg (by simp[K,R]),if_neg (by simp[Y]),hF]
       have O:=AF hF
       rw[Y]at DE
       clear K Y R hF
       go_enter Tryz.func84,Tryz.ntmps84
       go_wp2_with fail
       refine U.out.mono ?_
       rintro e w1 ⟨rfl,m⟩
       have r:=AF m
       have e0:=(m.cell (p:=⟨bx,0,none⟩) A).trans c0
       have e2:=(m.cell (p:=⟨bx,2,none⟩) A).trans c2
       have ed:=(m.cell (p:=⟨b,o+1,none⟩) W).trans d1
       clear m
       go_wp2_with fail
       go_region_with (go_at_call 48;refine(DE.out _ (r.out.trans ((Sl.drew _).below _))).mono ?_;rintro e w2 ⟨rfl,I⟩)
       all_goals
        have G:=(r.out.trans ((Sl.drew w1).below w.heap.size)).trans (I.mono r.out.size)
        have q1:=(G.cell (p:=⟨b,o+1,none⟩) W).trans d1
        have ai:=AF (G.mono J.out)
        have M:=HG.out.same (q':=q) (show gA (λ_=>True) E E w w2 from⟨G.size,λb h _=>⟨rfl,G.block b h⟩⟩) (λ_=>trivial) (AG q)
        have ac:Hid (B<=w2.heap.size):=M.hB
        have BG:=AF (λ(o:Obj) (h:o=.cells (frCells F (.slice none 0 0) (.slice none 0 0) (.slice none 0 0)) 100 (0,0))=>
         lA B q bx w2.heap.size at_ ag s _ bs _ dv cv (.slice none 0 0) F (w2.alloc o) (M.same (kN w2 o (5+2*(s.rest.length+1))) (λ_=>trivial) (AG q)) M.hB (lc _ _)
          (by rw[h];exact heap_alloc_new w2 _) (by rw[<-O.out];exact Strs.nil _ _) (by rw[<-O.out]) (by rw[<-O.out]))
        clear I G M
        go_wp2_with fail
        refine(BG.out _ (by rw[<-O.out,←ah.out];rfl)).mono ?_
        rintro e w4 ⟨ab,h4⟩
        have ad:=AF ((ai.out.alloc ac.out _).trans ab)
        clear ab BG
        cases Z:s.begin F at_ with
        | ok s3=>
          rw[Z]at h4
          obtain⟨rfl,h5⟩:=h4
          have H5:=AF h5
          have HC:=AF Z
          clear h5 Z
          go_wp2_with fail
          go_end0
          rw[V.out,HC.out]
          exact⟨ad.out,rfl,H5.out⟩
        | err ee ii=>
          rw[Z]at h4
          have h5:e=.panicked [{v:=.iface 84 (.agg #[.int .i64 (ee:Nat),.int .i64 (ii:Nat)]),recovered:=false}]:=h4
          subst h5
          have HC:=AF Z
          clear h4 Z
          go_wp2_with fail
          rw[V.out,HC.out]
          exact⟨rfl,ad.out,rfl⟩
   · have V:Hid (vj x at_ s=.err 190 at_):=if_pos (.inr R)
     have t1:(1:Int)<(s.rest.length:Int)+1:=by have:=List.length_pos_iff.2 R;omega
     clear K R
     go_enter Tryz.func84,Tryz.ntmps84
     go_wp2_with fail
     refine U.out.mono ?_
     rintro e w1 ⟨rfl,m⟩
     have r:=AF (m.mono J.out)
     have e0:=(m.cell (p:=⟨bx,0,none⟩) A).trans c0
     clear m
     go_wp2_with fail
     rw[V.out]
     exact⟨rfl,r.out,rfl⟩
end Go.Proofs.YtepcpgdfbaklfaaGreatDoor
