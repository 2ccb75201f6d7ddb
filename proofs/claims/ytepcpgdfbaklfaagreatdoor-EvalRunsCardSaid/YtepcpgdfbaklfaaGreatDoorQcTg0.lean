/- The contract of lacunaref00.WeighParts. The condition: lists and texts of at most 2 to the 47th bytes. -/
import Derived.Test.YtepcpgdfbaklfaaGreatDoorQcTs0
import Derived.Test.YtepcpgdfbaklfaaGreatDoorQcTg9
set_option maxRecDepth 100000
set_option maxHeartbeats 40000000
set_option linter.unusedSimpArgs false
set_option linter.unusedVariables false
namespace Go.Proofs.YtepcpgdfbaklfaaGreatDoor
open Go.RowKit Go.Shelf
attribute [local go_sem ↓] Go.wp_at_zero Go.wp_at_succ
def nsz (l:List ByteArray):Nat:=(l.map ByteArray.size).sum
def hw (h:Hd):Nat:=h.text.size+h.name.size+h.names.length+nsz h.names
def wq:Pt->Nat
 | .nil=>0
 | .cons h k e r=>hw h+(k.len+wq k)+(e.len+wq e)+wq r
def wt (t:Pt):Nat:=t.len+wq t
def il (most:Nat):Nat->List ByteArray->Nat
 | many,[]=>many
 | many,s::l=>if many<=most then il most (many+s.size) l else many
def mw:Pt->Nat->Nat->Nat
 | .nil,_,many=>many
 | .cons h k e r,most,many=>
   if many<=most then
    mw r most
     (if(if il most (many+h.text.size+h.name.size+h.names.length) h.names<=most then il most (many+h.text.size+h.name.size+h.names.length) h.names+mw k (most - il most (many+h.text.size+h.name.size+h.names.length) h.names) k.len else il most (many+h.text.size+h.name.size+h.names.length) h.names)<=most
       then(if il most (many+h.text.size+h.name.size+h.names.length) h.names<=most then il most (many+h.text.size+h.name.size+h.names.length) h.names+mw k (most - il most (many+h.text.size+h.name.size+h.names.length) h.names) k.len else il most (many+h.text.size+h.name.size+h.names.length) h.names)+
        mw e (most - (if il most (many+h.text.size+h.name.size+h.names.length) h.names<=most then il most (many+h.text.size+h.name.size+h.names.length) h.names+mw k (most - il most (many+h.text.size+h.name.size+h.names.length) h.names) k.len else il most (many+h.text.size+h.name.size+h.names.length) h.names)) e.len
       else(if il most (many+h.text.size+h.name.size+h.names.length) h.names<=most then il most (many+h.text.size+h.name.size+h.names.length) h.names+mw k (most - il most (many+h.text.size+h.name.size+h.names.length) h.names) k.len else il most (many+h.text.size+h.name.size+h.names.length) h.names))
   else many
def wgF (most:Nat)(t:Pt):Nat:=mw t most t.len
theorem mv (t:Pt)(most many:Nat)(h:¬many<=most):mw t most many=many:=by
 cases t with
 | nil=>rfl
 | cons h k e r=>rw[mw,if_neg (by assumption)]
theorem gt (h:Hd)(k e r:Pt)(most many o m A:Nat)(J:many<=most)(I:il most (many+h.text.size+h.name.size+h.names.length) h.names=o)(G:(if o<=most then o+wgF (most - o) k else o)=m)(E:(if m<=most then m+wgF (most - m) e else m)=A):
 mw (.cons h k e r) most many=mw r most A:=by
 unfold wgF at G E
 rw[mw,if_pos J,I,G,E]
theorem xb (most:Nat):∀(l:List ByteArray) (many:Nat),many<=il most many l:=by
 intro l
 induction l with
 | nil=>intro many;exact AG _
 | cons s l m=>
   intro many
   unfold il
   split
   · have:=m (many+s.size);omega
   · exact AG _
theorem xc (most:Nat):∀(l:List ByteArray) (many:Nat),il most many l<=most->il most many l=many+nsz l:=by
 intro l
 induction l with
 | nil=>intro many _;rfl
 | cons s l m=>
   intro many
   unfold il
   split
   · intro h;rw[m _ h];simp[nsz];omega
   · intro h;omega
theorem xe (most K:Nat)(A:140737488351232<=K):∀(l:List ByteArray) (many:Nat),(∀n∈l,n.size<=140737488351232)->many<=most+K->il most many l<=most+K:=by
 intro l
 induction l with
 | nil=>intro many _ h;exact h
 | cons s l o=>
   intro many m h
   unfold il
   split
   · exact o _ (λn r=>m n (List.mem_cons_of_mem _ r)) (by have:=m s (by simp);omega)
   · exact h
theorem wj:∀(t:Pt) (most many:Nat),many<=mw t most many:=by
 intro t
 induction t with
 | nil=>intro most many;exact AG _
 | cons h k e r A E m=>
   intro most many
   by_cases o:many<=most
   · rw[gt h k e r most many _ _ _ o rfl rfl rfl]
     refine Nat.le_trans ?_ (m _ _)
     have q:=xb most h.names (many+h.text.size+h.name.size+h.names.length)
     repeat' split
     all_goals omega
   · rw[mv _ _ _ o];exact AG _
theorem wo:∀(t:Pt) (most many:Nat),mw t most many<=most->mw t most many=many+wq t:=by
 intro t
 induction t with
 | nil=>intro most many _;rfl
 | cons h k e r M N K=>
   intro most many o
   by_cases O:many<=most
   · obtain⟨E,R⟩:∃m,il most (many+h.text.size+h.name.size+h.names.length) h.names=m:=⟨_,rfl⟩
     obtain⟨A,I⟩:∃m,(if E<=most then E+wgF (most - E) k else E)=m:=⟨_,rfl⟩
     obtain⟨J,G⟩:∃m,(if A<=most then A+wgF (most - A) e else A)=m:=⟨_,rfl⟩
     rw[gt h k e r most many E A J O R I G]at o ⊢
     have q4:J<=most:=Nat.le_trans (wj r most J) o
     rw[K most J o]
     have q3:A<=most:=by split at G <;> omega
     rw[if_pos q3]at G
     have q2:E<=most:=by split at I <;> omega
     rw[if_pos q2]at I
     have a2:=xc most h.names _ (by rw[R];exact q2)
     have a3:=M (most - E) k.len (by unfold wgF at I;omega)
     have a4:=N (most - A) e.len (by unfold wgF at G;omega)
     unfold wgF at I G
     simp only[wq,hw]
     omega
   · rw[mv _ _ _ O]at o;exact absurd o O
theorem wu:∀(t:Pt) (most many:Nat),t.wf->many<=most+422212465053696->mw t most many<=most+422212465053696:=by
 intro t
 induction t with
 | nil=>intro most many _ h;exact h
 | cons h k e r G I E=>
   intro most many M Z
   obtain⟨⟨-,-,-,f1,f2,f3,f4⟩,K,N,J,W,Y⟩:=M
   by_cases V:many<=most
   · obtain⟨A,e2⟩:∃m,il most (many+h.text.size+h.name.size+h.names.length) h.names=m:=⟨_,rfl⟩
     obtain⟨o,R⟩:∃m,(if A<=most then A+wgF (most - A) k else A)=m:=⟨_,rfl⟩
     obtain⟨U,O⟩:∃m,(if o<=most then o+wgF (most - o) e else o)=m:=⟨_,rfl⟩
     rw[gt h k e r most many A o U V e2 R O]
     have b2:=xe most 422212465053696 (by omega) h.names _ f4 (show many+h.text.size+h.name.size+h.names.length<=most+422212465053696 by omega)
     have b3:o<=most+422212465053696:=by
      split at R
      · have:=G (most - A) k.len K (by omega);unfold wgF at R;omega
      · omega
     refine E most U J ?_
     split at O
     · have:=I (most - o) e.len N (by omega);unfold wgF at O;omega
     · omega
   · rw[mv _ _ _ V];exact Z
theorem pT (t:Pt)(most:Nat)(h:t.wf)(m:t.len<=140737488351232):wgF most t<=most+422212465053696:=wu t most t.len h (by omega)
theorem vE (t:Pt)(most:Nat)(h:wgF most t<=most):wgF most t=wt t:=wo t most t.len h
def Qt (w w':World):Prop:=∃n,w'=w.drewN n
theorem Qt.refl (w:World):Qt w w:=⟨0,rfl⟩
theorem Qt.trans {a b c:World}(h:Qt a b)(k:Qt b c):Qt a c:=by
 obtain⟨n,rfl⟩:=h
 obtain⟨m,rfl⟩:=k
 exact⟨n+m,by rw[World.drewN_drewN]⟩
theorem Qt.drewN {a b:World}(h:Qt a b)(n:Nat):Qt a (b.drewN n):=h.trans ⟨n,rfl⟩
theorem Qt.cell {a b:World}(h:Qt a b)(p:Addr):b.cell? p=a.cell? p:=by obtain⟨n,rfl⟩:=h;rfl
theorem Qt.block {a b:World}(h:Qt a b)(k:Nat):b.heap[k]? =a.heap[k]? :=by obtain⟨n,rfl⟩:=h;rfl
def WgP (most:Nat)(x:Pt)(w:World)(e:Ending)(w':World):Prop:=e=.returned (.int .i64 (wgF most x:Nat))/\Qt w w'
def tP (n:Nat):Prop:=∀(x:Pt),x.cnt<n->∀(most:Nat) (ok:Nat->Prop) (v:Value) (w:World),most<=16384->x.wf->x.len<=140737488351232->d8 ok w v x->Calls Tryz.prog 49 #[v,.int .i64 (most:Nat)] w (WgP most x w)
theorem wg (n:Nat)(ih:tP n):tP (n+1):=by
 intro x hn most ok v w aQ av bc hx
 obtain⟨a,c,rfl,h1,h2,h3⟩:=hx.lt
 have HX:Hid (jX ok a w x 0):=λaP=>by
  obtain⟨b,o,q1,q2,q3⟩:=h3 aP
  exact⟨b,o,q1,q2,by rw[Nat.zero_mul,Nat.add_zero];exact q3⟩
 have aT:=AF av
 have IH:=AF ih
 clear h3 hx h1 h2 av ih
 go_enter Tryz.func49,Tryz.ntmps49
 go_wp2_with fail
 go_loopw [5,6] (λv5 v6 wr=>∃(many k:Nat) (r:Pt),v5=.int .i64 (many:Nat)/\v6=.int .i64 (k:Nat)/\k+r.len=x.len/\Hid (mw r most many=wgF most x)/\many<=most+422212465053696/\Hid (jX ok a w r k)/\Hid r.wf/\r.cnt<=x.cnt/\Hid (Qt w wr)) (λ_ i _=>x.len - (intOf i).toNat)
 case atStart=>exact⟨x.len,0,x,rfl,rfl,by omega,rfl,by omega,HX,aT,AG _,Qt.refl _⟩
 case round=>
  obtain⟨many,k,r,rfl,rfl,hk,HM,be,HR,HF,aR,HB⟩:=hrel
  cases r with
  | nil=>
    simp only[Pt.len]at hk
    have bk:¬(k:Int)<(x.len:Int):=by omega
    have aX:Hid (many=wgF most x):=HM.out
    go_wp2_with fail
    go_ret
    exact⟨by rw[<-aX.out];rfl,HB.out⟩
  | cons h N Y r=>
    simp only[Pt.len]at hk
    simp only[Pt.cnt]at aR
    have bg:(k:Int)<(x.len:Int):=by omega
    by_cases ap:many<=most
    · have ax:(many:Int)<=(most:Int):=by omega
      have bi:(0:Int)<=(k:Int):=by omega
      obtain⟨b,o,rfl,hb,aj⟩:=HR.out (by simp)
      obtain⟨aO,am,ao,au,az,aC⟩:=HF.out
      obtain⟨-,-,-,f1,f2,f3,f4⟩:=aO
      have ac:Hid (jX ok (some ⟨b,o,none⟩) w r (k+1)):=λ_=>⟨b,o,rfl,hb,by have:=aj.2.2.2;rwa[show o+k*8+8=o+(k+1)*8 by omega]at this⟩
      obtain⟨⟨-,-,g2,-,⟨vn,g4,aw⟩,g5⟩,⟨ak,ck,g6,k1,k2,k3⟩,⟨ae,ce,g7,e1,e2,e3⟩,-⟩:=aj
      have KC:Hid (∀W (m:Nat),Qt w W->m<=16384->Calls Tryz.prog 49 #[.slice ak N.len ck,.int .i64 (m:Nat)] W (WgP m N W)):=λW m U hm=>
       IH.out N (by omega) m (λb=>ok b/\b<w.heap.size) _ W hm am az (d8.kept ⟨ak,ck,rfl,k1,k2,k3⟩ (λb hb=>U.block b))
      have EC:Hid (∀W (m:Nat),Qt w W->m<=16384->Calls Tryz.prog 49 #[.slice ae Y.len ce,.int .i64 (m:Nat)] W (WgP m Y W)):=λW m U hm=>
       IH.out Y (by omega) m (λb=>ok b/\b<w.heap.size) _ W hm ao aC (d8.kept ⟨ae,ce,rfl,e1,e2,e3⟩ (λb hb=>U.block b))
      obtain⟨an,cn,rfl,n1,n2,n3⟩:=aw
      have J:Hid (∀W,Qt w W->W.cell? ⟨b,o+k*8+2,none⟩=some (.string h.text)/\W.cell? ⟨b,o+k*8+4,none⟩=some (.slice an h.names.length cn)/\W.cell? ⟨b,o+k*8+5,none⟩=some (.string h.name)/\
       W.cell? ⟨b,o+k*8+6,none⟩=some (.slice ak N.len ck)/\W.cell? ⟨b,o+k*8+7,none⟩=some (.slice ae Y.len ce)):=λW U=>
       ⟨(U.cell ⟨b,_,none⟩).trans g2,(U.cell ⟨b,_,none⟩).trans g4,(U.cell ⟨b,_,none⟩).trans g5,(U.cell ⟨b,_,none⟩).trans g6,(U.cell ⟨b,_,none⟩).trans g7⟩
      have aV:Hid (∀W,Qt w W->∀j s,h.names[j]? =some s->∃bn on,an=some ⟨bn,on,none⟩/\W.cell? ⟨bn,on+j,none⟩=some (.string s)):=λW U j s hj=>by
       obtain⟨bn,on,q1,q2,q3⟩:=n3 (by intro e;rw[e]at hj;simp at hj)
       exact⟨bn,on,q1,(U.cell ⟨bn,_,none⟩).trans (q3 j s hj)⟩
      have aZ:=AF f4
      have ad:=AF HM.out
      have af:=AF ap
      have ah:=AF hk
      have ab:=AF au
      have aS:=AF am
      have aU:=AF ao
      have bh:k+1+r.len<=x.len:=by omega
      clear g2 g4 g5 g6 g7 k3 e3 n3 f4 am ao au hk
      obtain⟨p2,p4,p5,p6,p7⟩:=J.out _ HB.out
      have aN:IntKind.i64.wrap ((many:Int)+(h.text.size:Int))=(many:Int)+(h.text.size:Int):=IntWalk.i64_in _ ⟨by omega,by omega⟩
      have aM:IntKind.i64.wrap ((many:Int)+(h.text.size:Int)+(h.name.size:Int))=(many:Int)+(h.text.size:Int)+(h.name.size:Int):=IntWalk.i64_in _ ⟨by omega,by omega⟩
      have aL:IntKind.i64.wrap ((many:Int)+(h.text.size:Int)+(h.name.size:Int)+(h.names.length:Int))=(many:Int)+(h.text.size:Int)+(h.name.size:Int)+(h.names.length:Int):=IntWalk.i64_in _ ⟨by omega,by omega⟩
      go_upto_region 5 with(fail)
      go_quiet (fail)
      clear aN aM aL p2 p4 p5 p6 p7
      obtain⟨M1,aI⟩:∃M1:Nat,M1=many+h.text.size+h.name.size+h.names.length:=⟨_,rfl⟩
      have al:(many:Int)+(h.text.size:Int)+(h.name.size:Int)+(h.names.length:Int)=((M1:Nat):Int):=by omega
      rw[al]
      have ag:=AF aI
      have aH:M1<=most+422212465053696:=by omega
      clear al aI
      generalize aG:World.drewN wr _=w1
      have a6:Hid (Qt w w1):=by rw[<-aG];exact HB.out.drewN _
      clear aG
      go_wp2_with fail
      go_loopw [5,7] (λv5 v7 wi=>∃(m j:Nat),v5=.int .i64 (m:Nat)/\v7=.int .i64 (j:Nat)/\j<=h.names.length/\Hid (il most m (h.names.drop j)=il most M1 h.names)/\m<=most+422212465053696/\Hid (Qt w wi)) (λ_ j _=>h.names.length - (intOf j).toNat)
      case atStart=>exact⟨M1,0,rfl,rfl,Nat.zero_le _,rfl,aH,a6⟩
      case round=>
       obtain⟨m,j,rfl,rfl,hj,HI,bf,K⟩:=hrel
       obtain⟨p2,p4,p5,p6,p7⟩:=J.out _ K.out
       have bj:(0:Int)<=(j:Int):=by omega
       by_cases R:j<h.names.length
       · have aB:(j:Int)<(h.names.length:Int):=by omega
         by_cases A:m<=most
         · have E:(m:Int)<=(most:Int):=by omega
           obtain⟨s,G⟩:∃s,h.names[j]? =some s:=⟨_,List.getElem?_eq_getElem R⟩
           obtain⟨bn,on,rfl,q1⟩:=aV.out _ K.out j s G
           have bd:s.size<=140737488351232:=aZ.out s (List.mem_of_getElem? G)
           have I:Hid (il most (m+s.size) (h.names.drop (j+1))=il most M1 h.names):=by
            have:=HI.out
            have ar:=(List.getElem?_eq_some_iff.1 G).1
            rw[List.drop_eq_getElem_cons ar,(List.getElem?_eq_some_iff.1 G).2,il,if_pos A]at this
            exact this
           clear G R A
           go_wp2_with fail
           go_roundw
           case rel=>exact⟨m+s.size,j+1,by go_num,by go_num,by omega,I,by omega,K⟩
           case measure=>simp[intOf];omega
         · have E:¬(m:Int)<=(most:Int):=by omega
           have M:=AF A
           have I:Hid (il most M1 h.names=m):=by
            have:=HI.out
            obtain⟨s,G⟩:∃s,h.names[j]? =some s:=⟨_,List.getElem?_eq_getElem R⟩
            have ar:=(List.getElem?_eq_some_iff.1 G).1
            rw[List.drop_eq_getElem_cons ar,il,if_neg M.out]at this
            exact this.symm
           clear A R
           go_wp2_with fail
           go_roundw
           case rel=>exact⟨m,k+1,r,rfl,by go_num,by have:=ah.out;omega,(by have q:=gt h N Y r most many m m m af.out (by rw[<-ag.out];exact I.out) (if_neg M.out) (if_neg M.out);unfold Hid;rw[<-q];exact ad.out),by omega,ac,ab,by omega,K⟩
           case measure=>simp[intOf];omega
       · have aB:¬(j:Int)<(h.names.length:Int):=by omega
         have I:Hid (il most M1 h.names=m):=by have:=HI.out;rw[List.drop_of_length_le (by omega)]at this;exact this.symm
         clear R
         by_cases A:m<=most
         · have E:(m:Int)<=(most:Int):=by omega
           have aJ:=AF A
           have KK:=AF (KC.out _ (most - m) K.out (by omega))
           have O:(most:Int) - (m:Int)=((most - m:Nat):Int):=by omega
           go_wp2_with fail
           refine KK.out.mono ?_
           rintro e w3 ⟨rfl,aF⟩
           have ai:Hid (Qt w w3):=K.out.trans aF
           obtain⟨mk,Z⟩:∃mk,wgF (most - m) N=mk:=⟨_,rfl⟩
           rw[Z]
           have aA:=pT N (most - m) aS.out az
           rw[Z]at aA
           have a8:m+mk<=most+422212465053696:=by omega
           have aW:=AF Z
           clear aF Z aA KK p2 p4 p5 p6 p7 O
           obtain⟨p2,p4,p5,p6,p7⟩:=J.out _ ai.out
           have aK:Hid ((if m<=most then m+wgF (most - m) N else m)=m+mk):=by unfold Hid;rw[if_pos aJ.out,aW.out]
           by_cases aq:m+mk<=most
           · have ay:(m:Int)+(mk:Int)<=(most:Int):=by omega
             have EE:=AF (EC.out _ (most - (m+mk)) ai.out (by omega))
             have O:(most:Int) - ((m:Int)+(mk:Int))=((most - (m+mk):Nat):Int):=by omega
             have aY:=AF aq
             go_wp2_with fail
             refine EE.out.mono ?_
             rintro e w4 ⟨rfl,aE⟩
             have a7:Hid (Qt w w4):=ai.out.trans aE
             obtain⟨me,aa⟩:∃me,wgF (most - (m+mk)) Y=me:=⟨_,rfl⟩
             rw[aa]
             have aD:=pT Y (most - (m+mk)) aU.out aC
             rw[aa]at aD
             have ba:m+mk+me<=most+422212465053696:=by omega
             have V:Hid (mw r most (m+mk+me)=wgF most x):=by
              have q:=gt h N Y r most many m (m+mk) (m+mk+me) af.out (by rw[<-ag.out];exact I.out) aK.out (by rw[if_pos aY.out,aa])
              unfold Hid;rw[<-q];exact ad.out
             clear aE aa aD EE p2 p4 p5 p6 p7 O
             go_wp2_with fail
             go_roundw
             case rel=>exact⟨m+mk+me,k+1,r,by go_num,by go_num,by have:=ah.out;omega,V,by omega,ac,ab,by omega,a7⟩
             case measure=>simp[intOf];omega
           · have ay:¬(m:Int)+(mk:Int)<=(most:Int):=by omega
             have V:Hid (mw r most (m+mk)=wgF most x):=by
              have q:=gt h N Y r most many m (m+mk) (m+mk) af.out (by rw[<-ag.out];exact I.out) aK.out (if_neg aq)
              unfold Hid;rw[<-q];exact ad.out
             clear aq
             go_wp2_with fail
             go_roundw
             case rel=>exact⟨m+mk,k+1,r,by go_num,by go_num,by have:=ah.out;omega,V,by omega,ac,ab,by omega,ai⟩
             case measure=>simp[intOf];omega
         · have E:¬(m:Int)<=(most:Int):=by omega
           have M:=AF A
           clear A
           go_wp2_with fail
           go_roundw
           case rel=>exact⟨m,k+1,r,rfl,by go_num,by have:=ah.out;omega,(by have q:=gt h N Y r most many m m m af.out (by rw[<-ag.out];exact I.out) (if_neg M.out) (if_neg M.out);unfold Hid;rw[<-q];exact ad.out),by omega,ac,ab,by omega,K⟩
           case measure=>simp[intOf];omega
    · have ax:¬(many:Int)<=(most:Int):=by omega
      have HN:=AF ap
      clear ap
      go_wp2_with fail
      go_ret
      exact⟨by rw[<-HM.out,mv _ _ _ HN.out];rfl,HB.out⟩
theorem yg (n:Nat):tP n:=by
 induction n with
 | zero=>intro x h;exact absurd h (Nat.not_lt_zero _)
 | succ n m=>exact wg n m
theorem gV (x:Pt)(most:Nat)(ok:Nat->Prop)(v:Value)(w:World)(o:most<=16384)(m:x.wf)(r:x.len<=140737488351232)(hx:d8 ok w v x):Calls Tryz.prog 49 #[v,.int .i64 (most:Nat)] w (WgP most x w):=
 yg (x.cnt+1) x (Nat.lt_succ_self _) most ok v w o m r hx
def wtD (l:List Df):Nat:=(l.map λd=>d.name.size+wt d.kids).sum
def wtT (t:Tm):Nat:=wt t.main+t.defs.length+wtD t.defs
theorem kx (d:Df)(l:List Df):wtD (d::l)=d.name.size+wt d.kids+wtD l:=by simp[wtD]
theorem jU (l:List Df)(k:Nat)(d:Df)(h:l[k]? =some d):l.drop k=d::l.drop (k+1):=by
 have m:=(List.getElem?_eq_some_iff.1 h).1
 rw[List.drop_eq_getElem_cons m,(List.getElem?_eq_some_iff.1 h).2]
def Aj (most:Nat)(t:Tm)(w:World)(e:Ending)(w':World):Prop:=∃m:Nat,e=.returned (.int .i64 (m:Nat))/\(m<=most->m=wtT t)/\Below w.heap.size w w'
theorem iU (t:Tm)(most:Nat)(U:most<=16384)(hz:TmW t)(ok:Nat->Prop)(vm vd:Value)(w:World)(hx:d8 ok w vm t.main)(hd:fU ok w vd t.defs):
 Calls Tryz.prog 27 #[.agg #[vm,vd],.int .i64 (most:Nat)] w (Aj most t w):=by
 obtain⟨main,defs⟩:=t
 obtain⟨⟨z1,G⟩,z2,z3⟩:=hz
 dsimp only at z1 G z2 z3 hx hd
 have MC:Hid (∀W,Below w.heap.size w W->Calls Tryz.prog 49 #[vm,.int .i64 (most:Nat)] W (WgP most main W)):=λW hW=>
  gV main most (λb=>ok b/\b<w.heap.size) vm W U z1 G (hx.lt.kept (λb Z=>hW.block b Z.2))
 obtain⟨am,cm,rfl,-⟩:=hx
 obtain⟨a,c,rfl,h1,h2,h3⟩:=hd.lt
 have H3:=AF h3
 have au:=AF z3
 have af:=AF (And.intro z1 G)
 clear h3 hd h1 h2 z1 G z3
 have M:Hid (Below w.heap.size w (w.alloc (.cells #[.slice am main.len cm,.slice a defs.length c] 25))):=(AH _ w).alloc (AG _) _
 have ag:Hid ((w.alloc (.cells #[.slice am main.len cm,.slice a defs.length c] 25)).heap[w.heap.size]? =some (.cells #[.slice am main.len cm,.slice a defs.length c] 25 (0,0))):=heap_alloc_new w _
 have aF:Hid ((w.alloc (.cells #[.slice am main.len cm,.slice a defs.length c] 25)).heap.size=w.heap.size+1):=by unfold Hid;simp
 go_enter Tryz.func27,Tryz.ntmps27
 go_upto_region 1 with(fail)
 generalize ar:World.alloc w _=R at*
 clear ar
 have Y:Hid (∀W,Below (w.heap.size+1) R W->W.cell? ⟨w.heap.size,0,none⟩=some (.slice am main.len cm)/\W.cell? ⟨w.heap.size,1,none⟩=some (.slice a defs.length c)):=λW hW=>
  ⟨by rw[dW ((hW.block _ (by omega)).trans ag.out)];rfl,by rw[dW ((hW.block _ (by omega)).trans ag.out)];rfl⟩
 obtain⟨t0,t1⟩:=Y.out _ (AH _ _)
 have MD:Hid (∀n,Calls Tryz.prog 49 #[.slice am main.len cm,.int .i64 (most:Nat)] (R.drewN n) λe w'=>e=.returned (.int .i64 (wgF most main:Nat))/\∃m,w'=(R.drewN n).drewN m):=λn=>(MC.out (R.drewN n) (ei M.out n)).mono (λe w' h=>h)
 obtain⟨N,r⟩:∃m,wgF most main=m:=⟨_,rfl⟩
 have ap:=pT main most af.out.1 af.out.2
 have ax:Hid (N<=most->N=wt main):=λe=>by rw[<-r]at e ⊢;exact vE _ _ e
 rw[r]at ap MD
 clear r
 have ao:IntKind.i64.wrap ((N:Int)+(defs.length:Int))=(N:Int)+(defs.length:Int):=IntWalk.i64_in _ ⟨by omega,by omega⟩
 go_quiet ((go_at_call 49;exact Calls.quiet_of (MD.out _)))
 generalize A:World.drewN R _=w1
 have aj:Hid (Below (w.heap.size+1) R w1):=by rw[<-A];exact ei (AH _ _) _
 clear A ao t0 t1
 obtain⟨t0,t1⟩:=Y.out _ aj.out
 all_goals
  have ae:N+defs.length<=most+700000000000000:=by omega
  have ah:Hid (N+defs.length<=most->N+defs.length+wtD (defs.drop 0)=wtT ⟨main,defs⟩):=λe=>by have:=ax.out (by omega);simp[wtT,this]
  go_wp2_with fail
  go_loopw [5,6] (λv5 v6 wr=>∃(many k:Nat),v5=.int .i64 (many:Nat)/\v6=.int .i64 (k:Nat)/\k<=defs.length/\Hid (many<=most->many+wtD (defs.drop k)=wtT ⟨main,defs⟩)/\many<=most+700000000000000/\Hid (Below (w.heap.size+1) R wr)) (λ_ i _=>defs.length - (intOf i).toNat)
  case atStart=>exact⟨N+defs.length,0,by go_num,rfl,Nat.zero_le _,ah,ae,aj⟩
  case round=>
   obtain⟨many,k,rfl,rfl,hk,HM,aB,HB⟩:=hrel
   clear t0 t1
   obtain⟨t0,t1⟩:=Y.out _ HB.out
   by_cases J:k<defs.length
   · have aA:(k:Int)<(defs.length:Int):=by omega
     by_cases I:many<=most
     · have ac:(many:Int)<=(most:Int):=by omega
       have aC:(0:Int)<=(k:Int):=by omega
       obtain⟨d,K⟩:∃d,defs[k]? =some d:=⟨_,List.getElem?_eq_getElem J⟩
       obtain⟨b,o,rfl,Z,O⟩:=H3.out (by intro e;rw[e]at J;simp at J)
       have ai:Hid (Below w.heap.size w wr):=M.out.trans (HB.out.mono (by omega))
       obtain⟨g0,g1,v,g2,ab⟩:=hZ.at _ _ _ _ _ K (O.kept (λb Z=>ai.out.block b Z.2) _ _ _ Z)
       obtain⟨y1,y2,y3⟩:=au.out d (List.mem_of_getElem? K)
       have aw:Hid (many+(d.name.size+wt d.kids+wtD (defs.drop (k+1)))=wtT ⟨main,defs⟩):=by have:=HM.out I;rw[jU _ _ _ K,kx]at this;exact this
       have aE:b<wr.heap.size:=by have:=Z.2;have:=ai.out.size;omega
       have KC:Hid (∀n,Calls Tryz.prog 49 #[v,.int .i64 ((most - many:Nat):Nat)] (wr.drewN n) λe w'=>e=.returned (.int .i64 (wgF (most - many) d.kids:Nat))/\∃m,w'=(wr.drewN n).drewN m):=λn=>
        (gV d.kids (most - many) (λb=>ok b/\b<w.heap.size) v (wr.drewN n) (by omega) y2 y3 (ab.kept (λ_ _=>rfl))).mono (λe w' h=>h)
       have V:=vE d.kids (most - many)
       have aq:=pT d.kids (most - many) y2 y3
       obtain⟨mk,ad⟩:∃m,wgF (most - many) d.kids=m:=⟨_,rfl⟩
       rw[ad]at V aq KC
       have ay:=AF V
       have al:IntKind.i64.wrap ((many:Int)+(d.name.size:Int)+(mk:Int))=(many:Int)+(d.name.size:Int)+(mk:Int):=IntWalk.i64_in _ ⟨by omega,by omega⟩
       have ak:IntKind.i64.wrap ((most:Int) - (many:Int))=((most - many:Nat):Int):=by rw[IntWalk.i64_in _ ⟨by omega,by omega⟩];omega
       clear ad V
       obtain⟨av,cv,rfl,-⟩:=ab
       have aa:(most:Int) - (many:Int)=((most - many:Nat):Int):=by omega
       have an:IntKind.i64.wrap ((many:Int)+(d.name.size:Int))=(many:Int)+(d.name.size:Int):=IntWalk.i64_in _ ⟨by omega,by omega⟩
       clear K O J
       go_upto_region 5 with(fail)
       go_quiet ((go_at_call 49;exact Calls.quiet_of (KC.out _)))
       generalize A:World.drewN wr _=w3
       have az:Hid (Below (w.heap.size+1) R w3):=by rw[<-A];exact ei HB.out _
       have E:Hid (many+d.name.size+mk<=most->many+d.name.size+mk+wtD (defs.drop (k+1))=wtT ⟨main,defs⟩):=λe=>by have:=ay.out (by omega);have:=aw.out;omega
       clear A KC aa I an al ak g0 g1 g2 t0 t1
       go_wp2_with fail
       go_roundw
       case rel=>exact⟨many+d.name.size+mk,k+1,by go_num,by go_num,by omega,E,by omega,az⟩
       case measure=>simp[intOf];omega
     · have ac:¬(many:Int)<=(most:Int):=by omega
       have HN:=AF I
       clear I
       go_wp2_with fail
       go_ret
       exact⟨many,rfl,λe=>absurd e HN.out,M.out.trans (HB.out.mono (by omega))⟩
   · have aD:¬(k:Int)<(defs.length:Int):=by omega
     have E:Hid (many<=most->many=wtT ⟨main,defs⟩):=λe=>by have:=HM.out e;rw[List.drop_of_length_le (by omega)]at this;simpa[wtD]using this
     go_wp2_with fail
     go_ret
     exact⟨many,rfl,E.out,M.out.trans (HB.out.mono (by omega))⟩
theorem vR (t:Pt):t.cnt<=t.len+wq t:=by
 induction t with
 | nil=>exact AG _
 | cons h k e r o A m=>simp only[Pt.cnt,Pt.len,wq];omega
theorem uA {l:List ByteArray}{n:ByteArray}(h:n∈l):n.size<=nsz l:=by
 induction l with
 | nil=>cases h
 | cons x l m=>
   simp only[nsz,List.map_cons,List.sum_cons]at m ⊢
   rcases List.mem_cons.1 h with rfl | h
   · omega
   · have:=m h;omega
theorem yy (t:Pt):∀n,n<=16777216->t.wf->t.len+wq t<=n->t.sm:=by
 induction t with
 | nil=>intro n _ _ _;exact trivial
 | cons h k e r A E o=>
   intro n K hw N
   obtain⟨⟨O,-,-,-,-,-,-⟩,I,J,G,-,-⟩:=hw
   simp only[Pt.len,wq,hw]at N
   have:hw h=h.text.size+h.name.size+h.names.length+nsz h.names:=rfl
   refine⟨⟨O,by omega,by omega,by omega,λm M=> ?_⟩,A n K I (by omega),E n K J (by omega),o n K G (by omega)⟩
   have:=uA M;omega
theorem pE (l:List ByteArray):(li (bls l)).length=l.length+nsz l:=by
 induction l with
 | nil=>rfl
 | cons x l m=>
   have:bls (x::l)=bl x::bls l:=rfl
   rw[this]
   simp only[li,List.length_append,List.length_cons,nsz,List.map_cons,List.sum_cons]at m ⊢
   have:(bl x).length=x.size:=rfl
   omega
theorem yl (root:Bool)(l:List ByteArray):(AJ root (bls l)).length<=1+l.length+nsz l:=by
 have:=pE l
 unfold AJ
 split
 · simp;omega
 · rw[List.length_append,this];split <;> simp <;> omega
theorem vH (t:Pt):∀m,(t.src m).length<=40*(t.len+wq t):=by
 induction t with
 | nil=>intro m;exact AG _
 | cons h k e r A E o=>
   intro m
   have R:=o (decide (h.kind=1))
   have O:=A false
   have N:=E false
   have M:=yl h.root h.names
   have K:hw h=h.text.size+h.name.size+h.names.length+nsz h.names:=rfl
   have J:(bl h.text).length=h.text.size:=rfl
   have I:(bl h.name).length=h.name.size:=rfl
   simp only[Pt.src,Pt.len,wq,List.length_append]
   have G:(if h.kind=1 then(if m then js else[])++bl h.text
    else if h.kind=2 then bra++AJ h.root (bls h.names)++ket
    else if h.kind=5 then bra++(eY++32::bl h.name++32::AJ h.root (bls h.names))++ket
    else if h.kind=3\/h.kind=4 then
     bra++((if h.kind=4 then eu else kIf)++32::AJ h.root (bls h.names))++ket++Pt.src false k++(if e.isNil then[]else eI++Pt.src false e)++gx
    else[]).length<=40*(1+hw h)+40*(k.len+wq k)+40*(e.len+wq e):=by
     split
     · rw[List.length_append];split <;> simp[js] <;> omega
     split
     · simp[bra,ket];omega
     split
     · simp[bra,ket,eY];omega
     split
     · rw[List.length_append,List.length_append,List.length_append]
       have a1:(bra++((if h.kind=4 then eu else kIf)++32::AJ h.root (bls h.names))++ket).length<=10+(AJ h.root (bls h.names)).length:=by
        split <;> simp[bra,ket,eu,kIf] <;> omega
       have a2:(if e.isNil then[]else eI++Pt.src false e).length<=8+(Pt.src false e).length:=by
        split
        · simp
        · rw[List.length_append];have:eI.length=8:=rfl;omega
       have a3:gx.length=7:=rfl
       omega
     · simp
   omega
theorem wH (l:List Df):(l.flatMap kq).length<=40*(l.length+wtD l):=by
 induction l with
 | nil=>exact AG _
 | cons d l m=>
   rw[List.flatMap_cons,List.length_append,kx,List.length_cons]
   have r:=vH d.kids false
   have o:(kq d).length=d.name.size+18+(d.kids.src false).length:=by simp[kq,bra,ket,lK,gx,bl];omega
   unfold wt
   omega
theorem wb {l:List Df}{d:Df}(h:d∈l):d.name.size+wt d.kids<=wtD l:=by
 induction l with
 | nil=>cases h
 | cons x l m=>
   rw[kx]
   rcases List.mem_cons.1 h with rfl | h
   · omega
   · have:=m h;omega
theorem xJ (l:List Df):(l.map λd=>d.kids.cnt).sum<=wtD l:=by
 induction l with
 | nil=>exact AG _
 | cons d l m=>
   rw[kx,List.map_cons,List.sum_cons]
   have:=vR d.kids
   unfold wt
   omega
theorem yv (t:Tm)(hw:TmW t)(h:wtT t<=16384):TmZ t:=by
 unfold wtT wt at h
 refine⟨yy t.main 16384 (by omega) hw.main.1 (by omega),λd m=> ?_,?_,by omega,?_⟩
 · have o:=wb m
   unfold wt at o
   obtain⟨q1,q2,q3⟩:=hw.defs d m
   exact⟨by omega,yy d.kids 16384 (by omega) q2 (by omega)⟩
 · have:=vR t.main
   have:=xJ t.defs
   omega
 · unfold Tm.src
   rw[List.length_append]
   have:=vH t.main false
   have:=wH t.defs
   omega
end Go.Proofs.YtepcpgdfbaklfaaGreatDoor
