/- Contracts of lacunaref19.named and text. The condition: no list is longer than 2 to the 47th, no text than 2 to the 24th. -/
import Derived.Test.YtepcpgdfbaklfaaGreatDoorQcTq1
import Derived.Test.YtepcpgdfbaklfaaGreatDoorQcTfm
import Derived.Test.YtepcpgdfbaklfaaGreatDoorQcTrq
import Derived.Test.YtepcpgdfbaklfaaGreatDoorQcTg0
import Derived.Test.YtepcpgdfbaklfaaGreatDoorQcLibv
import Derived.Deep.DeepCutAuto
set_option maxRecDepth 100000
set_option maxHeartbeats 40000000
set_option linter.unusedVariables false
set_option linter.unusedSimpArgs false
namespace Go.Proofs.YtepcpgdfbaklfaaGreatDoor
open Go.RowKit Go.Shelf
attribute [local go_sem ↓] Go.wp_at_zero Go.wp_at_succ
theorem nP (ok:Nat->Prop)(l:List ByteArray)(Z:l.length<=140737488351232)(M:∀s∈l,s.size<=140737488351232)(v:Value)(w:World)(h:Strs ok w v l):
 Calls Tryz.prog 92 #[v] w λe w'=>e=.returned (.bool (ex (bls l)))/\w=w':=by
 obtain⟨a,c,rfl,h1,h2,O⟩:=h
 have Y:=AF O
 have W:=AF M
 obtain⟨R,N⟩:∃R,ex (bls l)=R:=⟨_,rfl⟩
 rw[N]
 clear O M
 go_enter Tryz.func92,Tryz.ntmps92
 go_wp2_with fail
 go_loopw [3] (λi wr=>∃k:Nat,i=.int .i64 (k:Nat)/\k<=l.length/\wr=w/\Hid (ex (bls (l.drop k))=R)) (λi _=>l.length - (intOf i).toNat)
 case atStart=>exact⟨0,rfl,Nat.zero_le _,rfl,N⟩
 case round=>
  obtain⟨k,rfl,hk,rfl,K⟩:=hrel
  by_cases r:k<l.length
  · have I:(k:Int)<(l.length:Int):=by omega
    have V:(0:Int)<=(k:Int):=by omega
    obtain⟨s,A⟩:∃s,l[k]? =some s:=⟨_,List.getElem?_eq_getElem r⟩
    obtain⟨b,o,rfl,-,m⟩:=Y.out (by intro e;rw[e]at r;simp at r)
    have pc:=m k s A
    have J:=AF (iO s (W.out s (List.mem_of_getElem? A)) wr)
    have U:Hid (ex (bls (l.drop k))=(jG (bl s)&&ex (bls (l.drop (k+1))))):=by
     have r:=(List.getElem?_eq_some_iff.1 A).1
     unfold Hid
     rw[List.drop_eq_getElem_cons r,(List.getElem?_eq_some_iff.1 A).2];rfl
    clear m A
    cases G:jG (bl s)with
    | true=>
      have E:Hid (ex (bls (l.drop (k+1)))=R):=by unfold Hid;rw[<-K.out,U.out,G];rfl
      rw[G]at J
      clear G
      go_wp2_with fail
      refine J.out.mono ?_
      rintro e w' ⟨rfl,rfl⟩
      go_wp2_with fail
      exact⟨⟨k+1,by go_num,by omega,by first | trivial | rfl,E⟩,by simp[intOf];omega⟩
    | false=>
      have E:Hid (false=R):=by unfold Hid;rw[<-K.out,U.out,G];rfl
      rw[G]at J
      clear G
      go_wp2_with fail
      refine J.out.mono ?_
      rintro e w' ⟨rfl,rfl⟩
      go_wp2_with fail
      go_ret
      exact⟨dZ E.out,by first | trivial | rfl⟩
  · have I:¬(k:Int)<(l.length:Int):=by omega
    have E:Hid (true=R):=by unfold Hid;rw[<-K.out,List.drop_of_length_le (by omega)];rfl
    clear r
    go_wp2_with fail
    go_ret
    exact⟨dZ E.out,by first | trivial | rfl⟩
theorem s8 (c:UInt8)(l:By):(jx c l 0<0)↔gq c l=none:=by
 unfold jx
 rw[List.drop_zero]
 cases gq c l with
 | none=>simp
 | some x=>simp
theorem o4 (s:ByteArray)(m:Bool)(hs:s.size<=16777216)(w:World):
 Calls Tryz.prog 93 #[.string s,.bool m] w λe w'=>e=.returned (.bool (jZ (bl s) m))/\Below w.heap.size w w':=by
 have I:=AF (nh s hs w)
 have V:=AF (λW=>pB s 0 hs (Nat.zero_le _) W)
 have U:Hid (jZ (bl s) m=(!(bl s).isEmpty&&Lib.validD (bl s)&&(gq 123 (bl s)).isNone&&(m||decide ((bl s).getLast?≠some 123)))):=rfl
 have M:=AF (s8 123 (bl s))
 obtain⟨R,hR⟩:∃R,jZ (bl s) m=R:=⟨_,rfl⟩
 rw[hR]at U ⊢
 have Y:s.data.toList=bl s:=rfl
 rw[Y]at I
 by_cases K:s.size=0
 · have he:s.toList.isEmpty=true:=by rw[ia s K,ByteArray.toList_eq];rfl
   have r:Hid (false=R):=by unfold Hid;rw[U.out,ia s K];rfl
   clear K U M
   generalize Lib.validD (bl s)=vd at*
   go_enter Tryz.func93,Tryz.ntmps93
   go_wp2_with fail
   refine I.out.mono ?_
   rintro e w1 ⟨rfl,o⟩
   go_wp2_with fail
   go_ret
   exact⟨dZ r.out,o⟩
 have he:=iN s (by omega)
 have N:(bl s).isEmpty=false:=by rw[<-he,ByteArray.toList_eq];rfl
 have A:Hid (R=(Lib.validD (bl s)&&(gq 123 (bl s)).isNone&&(m||decide ((bl s).getLast?≠some 123)))):=by unfold Hid;rw[U.out,N];rfl
 clear N U
 cases G:Lib.validD (bl s)with
 | false=>
   have r:Hid (false=R):=by unfold Hid;rw[A.out,G];rfl
   rw[G]at I
   clear G A K
   go_enter Tryz.func93,Tryz.ntmps93
   go_wp2_with fail
   refine I.out.mono ?_
   rintro e w1 ⟨rfl,o⟩
   go_wp2_with fail
   go_ret
   exact⟨dZ r.out,o⟩
 | true=>
 rw[G]at I
 obtain⟨f,hf⟩:∃f,jx 123 (bl s) 0=f:=⟨_,rfl⟩
 rw[hf]at V M
 by_cases J:gq 123 (bl s)=none
 · have aa:f<0:=M.out.2 J
   have E:Hid (R=(m||decide ((bl s).getLast?≠some 123))):=by unfold Hid;rw[A.out,G,J];rfl
   clear G J A hf M
   cases m with
   | true=>
     have r:Hid (true=R):=by unfold Hid;rw[E.out];rfl
     clear E K
     go_enter Tryz.func93,Tryz.ntmps93
     go_wp2_with fail
     refine I.out.mono ?_
     rintro e w1 ⟨rfl,o⟩
     go_wp2_with fail
     refine(V.out _).mono ?_
     rintro e w2 ⟨rfl,rfl⟩
     go_wp2_with fail
     go_ret
     exact⟨dZ r.out,o⟩
   | false=>
     have ac:s.size - 1<s.size:=by omega
     have hi:(s.size:Int) - 1=((s.size - 1:Nat):Int):=by omega
     obtain⟨O,ab⟩:∃O,s[s.size - 1]=O:=⟨_,rfl⟩
     have r:Hid (((O.toNat:Int)!=123)=R):=by
      unfold Hid;rw[E.out,Bool.false_or]
      have Z:(bl s).getLast? =some O:=by
       rw[List.getLast?_eq_getElem?,←ab]
       have q:(bl s).length=s.size:=rfl
       rw[q,List.getElem?_eq_getElem (by omega)]
       rfl
      rw[Z,Bool.eq_iff_iff]
      simp
      constructor
      · intro h e;rw[e]at h;exact h rfl
      · intro h e;exact h (UInt8.toNat_inj.1 (show O.toNat=123 by omega))
     clear E
     go_enter Tryz.func93,Tryz.ntmps93
     go_wp2_with fail
     refine I.out.mono ?_
     rintro e w1 ⟨rfl,o⟩
     go_wp2_with fail
     refine(V.out _).mono ?_
     rintro e w2 ⟨rfl,rfl⟩
     go_wp2_with fail
     go_ret
     exact⟨dZ r.out,o⟩
 · have aa:¬f<0:=λh=>J (M.out.1 h)
   have r:Hid (false=R):=by
    unfold Hid;rw[A.out,G]
    cases hq:gq 123 (bl s)with
    | none=>exact absurd hq J
    | some z=>rfl
   clear G J A hf M K
   go_enter Tryz.func93,Tryz.ntmps93
   go_wp2_with fail
   refine I.out.mono ?_
   rintro e w1 ⟨rfl,o⟩
   go_wp2_with fail
   refine(V.out _).mono ?_
   rintro e w2 ⟨rfl,rfl⟩
   go_wp2_with fail
   go_ret
   exact⟨dZ r.out,o⟩
theorem eP (a b:ByteArray):bl (a++b)=bl a++bl b:=by unfold bl;simp
theorem qM (root:Bool)(l:List ByteArray)(hl:1+l.length+nsz l<=16777216)(v:Value)(w:World)(h:Strs (·<w.heap.size) w v l):
 Calls Tryz.prog 137 #[.agg #[.bool root,v]] w λe w'=>e=.returned (.string (mkB (AJ root (bls l))))/\Below w.heap.size w w':=by
 obtain⟨a,c,rfl,h1,h2,h3⟩:=h
 have G:Hid (Below w.heap.size w (w.alloc (.cells #[.bool root,.slice a l.length c] 54))):=(AH w.heap.size w).alloc (AG _) _
 have c0:(w.alloc (.cells #[.bool root,.slice a l.length c] 54)).cell? ⟨w.heap.size,0,none⟩=some (.bool root):=by rw[dW (heap_alloc_new w _)];rfl
 have c1:(w.alloc (.cells #[.bool root,.slice a l.length c] 54)).cell? ⟨w.heap.size,1,none⟩=some (.slice a l.length c):=by rw[dW (heap_alloc_new w _)];rfl
 have H3:Hid (∀k n,l[k]? =some n->∃b o,a=some ⟨b,o,none⟩/\(w.alloc (.cells #[.bool root,.slice a l.length c] 54)).cell? ⟨b,o+k,none⟩=some (.string n)):=λk n O=>by
  obtain⟨b,o,q1,q2,q3⟩:=h3 (by intro e;rw[e]at O;simp at O)
  exact⟨b,o,q1,(G.out.cell (p:=⟨b,_,none⟩) q2).trans (q3 k n O)⟩
 obtain⟨F,V⟩:∃F,(if root then[36]else[])++li (bls l)=F:=⟨_,rfl⟩
 have ac:F.length<=16777216:=by
  rw[<-V,List.length_append,pE]
  split <;> simp <;> omega
 have J:Hid (AJ root (bls l)=if F=[]then[46]else F):=by
  unfold Hid AJ
  rw[<-V]
  cases root with
  | true=>simp
  | false=>cases l with
    | nil=>rfl
    | cons x l=>simp[bls,li]
 have HF:=AF V
 clear V h3
 go_enter Tryz.func137,Tryz.ntmps137
 cases root with
 | true=>
   go_wp2_with fail
   generalize M:World.alloc w _=w0 at*
   clear M
   go_loopw [3,4] (λv3 v4 wr=>∃(s:ByteArray) (k:Nat),v3=.string s/\v4=.int .i64 (k:Nat)/\k<=l.length/\wr=w0/\s.size<=16777216/\Hid (bl s++li (bls (l.drop k))=F)) (λ_ i _=>l.length - (intOf i).toNat)
   case atStart=>exact⟨⟨#[36]⟩,0,rfl,rfl,Nat.zero_le _,rfl,by decide,HF.out⟩
   case round=>
    obtain⟨s,k,rfl,rfl,O,rfl,W,R⟩:=hrel
    by_cases m:k<l.length
    · have A:(k:Int)<(l.length:Int):=by omega
      have aa:(0:Int)<=(k:Int):=by omega
      obtain⟨n,r⟩:∃n,l[k]? =some n:=⟨_,List.getElem?_eq_getElem m⟩
      obtain⟨b,o,rfl,pc⟩:=H3.out k n r
      have E:Hid (bl (s++⟨#[46]⟩++n)++li (bls (l.drop (k+1)))=F):=by
       have m:=(List.getElem?_eq_some_iff.1 r).1
       have:=R.out
       rw[List.drop_eq_getElem_cons m,(List.getElem?_eq_some_iff.1 r).2]at this
       unfold Hid
       rw[<-this,eP,eP]
       show _=bl s++(46::bl n++li (bls (l.drop (k+1))))
       have:bl (⟨#[46]⟩:ByteArray)=[46]:=rfl
       rw[this]
       simp
      have K:(s++⟨#[46]⟩++n).size<=16777216:=by
       have:=congrArg List.length E.out
       rw[List.length_append]at this
       have q:(bl (s++⟨#[46]⟩++n)).length=(s++⟨#[46]⟩++n).size:=rfl
       omega
      have Z:(s++⟨#[46]⟩++n).size=s.size+1+n.size:=by simp;rfl
      have Y:(s++⟨#[46]⟩).size=s.size+1:=by simp;rfl
      have ab:(⟨#[46]⟩:ByteArray).size=1:=rfl
      clear r
      go_wp2_with fail
      exact⟨⟨_,k+1,by rfl,by go_num,by omega,by first | trivial | rfl,K,E⟩,by simp[intOf];omega⟩
    · have A:¬(k:Int)<(l.length:Int):=by omega
      have U:Hid (bl s=F):=by
       have:=R.out
       rw[List.drop_of_length_le (by omega)]at this
       unfold Hid;rw[<-this];simp[bls,li]
      clear m
      by_cases I:s.size=0
      · have he:s.toList.isEmpty=true:=by rw[ia s I,ByteArray.toList_eq];rfl
        have N:Hid (mkB (AJ true (bls l))=⟨#[46]⟩):=by
         unfold Hid;rw[J.out,←U.out,ia s I];rfl
        clear I
        go_wp2_with fail
        go_ret
        exact⟨by rw[N.out];rfl,G.out⟩
      · have he:=iN s (by omega)
        have N:Hid (mkB (AJ true (bls l))=s):=by
         unfold Hid;rw[J.out,←U.out,if_neg (by intro e;have q:(bl s).length=s.size:=rfl;rw[e]at q;simp at q;omega)]
         exact gW s
        clear I
        go_wp2_with fail
        go_ret
        exact⟨by rw[N.out];rfl,G.out⟩
 | false=>
   go_wp2_with fail
   generalize M:World.alloc w _=w0 at*
   clear M
   go_loopw [3,4] (λv3 v4 wr=>∃(s:ByteArray) (k:Nat),v3=.string s/\v4=.int .i64 (k:Nat)/\k<=l.length/\wr=w0/\s.size<=16777216/\Hid (bl s++li (bls (l.drop k))=F)) (λ_ i _=>l.length - (intOf i).toNat)
   case atStart=>exact⟨⟨#[]⟩,0,rfl,rfl,Nat.zero_le _,rfl,by decide,HF.out⟩
   case round=>
    obtain⟨s,k,rfl,rfl,O,rfl,W,R⟩:=hrel
    by_cases m:k<l.length
    · have A:(k:Int)<(l.length:Int):=by omega
      have aa:(0:Int)<=(k:Int):=by omega
      obtain⟨n,r⟩:∃n,l[k]? =some n:=⟨_,List.getElem?_eq_getElem m⟩
      obtain⟨b,o,rfl,pc⟩:=H3.out k n r
      have E:Hid (bl (s++⟨#[46]⟩++n)++li (bls (l.drop (k+1)))=F):=by
       have m:=(List.getElem?_eq_some_iff.1 r).1
       have:=R.out
       rw[List.drop_eq_getElem_cons m,(List.getElem?_eq_some_iff.1 r).2]at this
       unfold Hid
       rw[<-this,eP,eP]
       show _=bl s++(46::bl n++li (bls (l.drop (k+1))))
       have:bl (⟨#[46]⟩:ByteArray)=[46]:=rfl
       rw[this]
       simp
      have K:(s++⟨#[46]⟩++n).size<=16777216:=by
       have:=congrArg List.length E.out
       rw[List.length_append]at this
       have q:(bl (s++⟨#[46]⟩++n)).length=(s++⟨#[46]⟩++n).size:=rfl
       omega
      have Z:(s++⟨#[46]⟩++n).size=s.size+1+n.size:=by simp;rfl
      have Y:(s++⟨#[46]⟩).size=s.size+1:=by simp;rfl
      have ab:(⟨#[46]⟩:ByteArray).size=1:=rfl
      clear r
      go_wp2_with fail
      exact⟨⟨_,k+1,by rfl,by go_num,by omega,by first | trivial | rfl,K,E⟩,by simp[intOf];omega⟩
    · have A:¬(k:Int)<(l.length:Int):=by omega
      have U:Hid (bl s=F):=by
       have:=R.out
       rw[List.drop_of_length_le (by omega)]at this
       unfold Hid;rw[<-this];simp[bls,li]
      clear m
      by_cases I:s.size=0
      · have he:s.toList.isEmpty=true:=by rw[ia s I,ByteArray.toList_eq];rfl
        have N:Hid (mkB (AJ false (bls l))=⟨#[46]⟩):=by
         unfold Hid;rw[J.out,←U.out,ia s I];rfl
        clear I
        go_wp2_with fail
        go_ret
        exact⟨by rw[N.out];rfl,G.out⟩
      · have he:=iN s (by omega)
        have N:Hid (mkB (AJ false (bls l))=s):=by
         unfold Hid;rw[J.out,←U.out,if_neg (by intro e;have q:(bl s).length=s.size:=rfl;rw[e]at q;simp at q;omega)]
         exact gW s
        clear I
        go_wp2_with fail
        go_ret
        exact⟨by rw[N.out];rfl,G.out⟩
def FmP (m:Bool)(x:Pt)(w:World)(e:Ending)(w':World):Prop:=e=.returned (.bool (x.form m))/\Below w.heap.size w w'
def tZ (n:Nat):Prop:=∀(x:Pt),x.cnt<n->∀(m:Bool) (v:Value) (w:World),x.sm->x.cnt<=16777216->d8 (·<w.heap.size) w v x->Calls Tryz.prog 54 #[v,.bool m] w (FmP m x w)
theorem xr (n:Nat)(ih:tZ n):tZ (n+1):=by
 intro x hn m v w aE a6 hx
 obtain⟨a,c,rfl,h1,h2,h3⟩:=hx.lt
 have HX:Hid (jX (·<w.heap.size) a w x 0):=λay=>by
  obtain⟨b,o,q1,q2,q3⟩:=h3 ay
  exact⟨b,o,q1,q2,by rw[Nat.zero_mul,Nat.add_zero];exact q3⟩
 have aU:=AF aE
 have IH:=AF ih
 have aV:=kY x
 clear h3 hx h1 h2 ih aE
 go_enter Tryz.func54,Tryz.ntmps54
 go_wp2_with fail
 go_loopw [5] (λv5 wr=>∃(k:Nat) (r:Pt),v5=.int .i64 (k:Nat)/\k+r.len=x.len/\Hid (r.form m=x.form m)/\Hid (jX (·<w.heap.size) a w r k)/\r.cnt<=x.cnt/\Hid r.sm/\Hid (Below w.heap.size w wr)) (λi _=>x.len - (intOf i).toNat)
 case atStart=>exact⟨0,x,rfl,by omega,rfl,HX,AG _,aU,AH _ _⟩
 case round=>
  obtain⟨k,r,rfl,hk,HC,HR,aR,aT,HB⟩:=hrel
  cases r with
  | nil=>
    simp only[Pt.len]at hk
    have aZ:¬(k:Int)<(x.len:Int):=by omega
    have G:Hid (true=x.form m):=by have:=HC.out;unfold Hid;rw[<-this];cases m <;> rfl
    go_wp2_with fail
    go_ret
    exact⟨dZ G.out,HB.out⟩
  | cons h kd el r=>
    simp only[Pt.len]at hk
    simp only[Pt.cnt]at aR
    have aW:(k:Int)<(x.len:Int):=by omega
    have aY:(0:Int)<=(k:Int):=by omega
    obtain⟨aO,aF,aG,aD⟩:=aT.out
    have aj:=AF aD
    obtain⟨b,o,rfl,hb,aw⟩:=HR.out (by simp)
    have ar:Hid (jX (·<w.heap.size) (some ⟨b,o,none⟩) w r (k+1)):=λ_=>⟨b,o,rfl,hb,by have:=aw.2.2.2;rwa[show o+k*8+8=o+(k+1)*8 by omega]at this⟩
    obtain⟨⟨g0,g1,g2,g3,⟨vn,g4,av⟩,g5⟩,⟨ak,ck,g6,k1,k2,k3⟩,⟨ae,ce,g7,e1,e2,e3⟩,-⟩:=aw
    have aN:=HB.out.size
    have KC:Hid (∀W,Below w.heap.size w W->Calls Tryz.prog 54 #[.slice ak kd.len ck,.bool false] W (FmP false kd W)):=λW hW=>
     IH.out kd (by omega) false _ W aF (by omega) ((d8.kept ⟨ak,ck,rfl,k1,k2,k3⟩ (λb hb=>hW.block b hb.2)).mono (λb hb=>AI hb.2 hW.size))
    have EC:Hid (∀W,Below w.heap.size w W->Calls Tryz.prog 54 #[.slice ae el.len ce,.bool false] W (FmP false el W)):=λW hW=>
     IH.out el (by omega) false _ W aG (by omega) ((d8.kept ⟨ae,ce,rfl,e1,e2,e3⟩ (λb hb=>hW.block b hb.2)).mono (λb hb=>AI hb.2 hW.size))
    obtain⟨s1,s2,s3,s4,s5⟩:=aO
    have NM:Hid (∀W,Below w.heap.size w W->Calls Tryz.prog 92 #[vn] W λe w'=>e=.returned (.bool (ex (bls h.names)))/\W=w'):=λW hW=>
     nP (λb=>b<w.heap.size/\b<w.heap.size) h.names (by omega) (λs hs=>by have:=s5 s hs;omega) vn W (av.kept (λb hb=>hW.block b hb.2))
    have NA:Hid (∀W,Calls Tryz.prog 58 #[.string h.name] W λe w'=>e=.returned (.bool (eK (bl h.name)))/\W=w'):=λW=>kS h.name (by omega) W
    have TX:Hid (∀W (l:Bool),Calls Tryz.prog 93 #[.string h.text,.bool l] W λe w'=>e=.returned (.bool (jZ (bl h.text) l))/\Below W.heap.size W w'):=λW l=>o4 h.text l s2 W
    have HA:Hid (Below wr.heap.size wr (wr.alloc (.cells (eo h vn (.slice ak kd.len ck) (.slice ae el.len ce)) 56))):=(AH _ wr).alloc (AG _) _
    have HT:Hid ((wr.alloc (.cells (eo h vn (.slice ak kd.len ck) (.slice ae el.len ce)) 56)).heap[wr.heap.size]? =some (.cells (eo h vn (.slice ak kd.len ck) (.slice ae el.len ce)) 56 (0,0))):=heap_alloc_new wr _
    have HS:Hid ((wr.alloc (.cells (eo h vn (.slice ak kd.len ck) (.slice ae el.len ce)) 56)).heap.size=wr.heap.size+1):=by unfold Hid;simp
    obtain⟨an,cn,rfl,n1,n2,-⟩:=av
    have cc:∀j y,w.cell? ⟨b,o+k*8+j,none⟩=some y->wr.cell? ⟨b,o+k*8+j,none⟩=some y:=λj y hy=>(HB.out.cell (p:=⟨b,_,none⟩) hb.2).trans hy
    have p0:=cc 0 _ g0
    have p1:=cc 1 _ g1
    have p2:=cc 2 _ g2
    have p3:=cc 3 _ g3
    have p4:=cc 4 _ g4
    have p5:=cc 5 _ g5
    have p6:=cc 6 _ g6
    have p7:=cc 7 _ g7
    rw[Nat.add_zero]at p0
    have a7:b<wr.heap.size:=AI hb.2 HB.out.size
    have al:=AF hk
    have aX:k+1+r.len<=x.len:=by omega
    clear k3 e3 g0 g1 g2 g3 g4 g5 g6 g7 cc hk aF aG aD s5
    unfold eo at HA HT HS
    go_upto_region 5 with(fail)
    generalize aS:World.alloc wr _=W0 at*
    clear aS p0 p1 p2 p3 p4 p5 p6 p7
    have aq:Hid (∀W,Below (wr.heap.size+1) W0 W->W.cell? ⟨wr.heap.size,0,none⟩=some (.int .u8 (h.kind:Nat))/\W.cell? ⟨wr.heap.size,2,none⟩=some (.string h.text)/\W.cell? ⟨wr.heap.size,3,none⟩=some (.bool h.root)/\W.cell? ⟨wr.heap.size,4,none⟩=some (.slice an h.names.length cn)/\
     W.cell? ⟨wr.heap.size,5,none⟩=some (.string h.name)/\W.cell? ⟨wr.heap.size,6,none⟩=some (.slice ak kd.len ck)/\W.cell? ⟨wr.heap.size,7,none⟩=some (.slice ae el.len ce)/\Below w.heap.size w W/\wr.heap.size+1<=W.heap.size):=λW hW=>by
     have q:=λj=>dW ((hW.block _ (by omega)).trans HT.out) j
     exact⟨(q 0).trans rfl,(q 2).trans rfl,(q 3).trans rfl,(q 4).trans rfl,(q 5).trans rfl,(q 6).trans rfl,(q 7).trans rfl,(HB.out.trans (HA.out.mono aN)).trans (hW.mono (by omega)),by have:=hW.size;rw[HS.out]at this;exact this⟩
    have aC:Hid (Below (wr.heap.size+1) W0 W0):=AH _ _
    clear HA HT HS
    obtain⟨x0,x2,x3,x4,x5,x6,x7,az,ax⟩:=aq.out _ aC.out
    obtain⟨pp,aI⟩:∃q,(h.root||decide (0<h.names.length))=q:=⟨_,rfl⟩
    have ag:=AF aI
    clear aI
    go_cut [7] (λv7 wx=>v7=.bool pp/\wx=W0)
    case first=>
     cases hr:h.root with
     | true=>
       rw[hr]at x3
       go_wp2_with fail
       go_meet
       case rel=>exact⟨by rw[<-ag.out,hr];rfl,rfl⟩
     | false=>
       rw[hr]at x3
       go_wp2_with fail
       go_meet
       case rel=>exact⟨by rw[<-ag.out,hr];simp,rfl⟩
    case rest=>
     obtain⟨rfl,rfl⟩:=hcut
     clear x0 x2 x3 x4 x5 x6 x7
     have hi:(x.len:Int) - 1=((x.len - 1:Nat):Int):=by have:=al.out;omega
     go_upto_region 6 with(fail)
     go_cut [8] (λv8 wx=>v8=.bool (m&&r.isNil)/\wx=wc)
     case first=>
      cases ap:r.isNil with
      | true=>
        have hq:((k:Int)==((x.len - 1:Nat):Int))=true:=by
         have:=al.out
         cases r with
         | nil=>simp only[Pt.len]at this;exact beq_iff_eq.2 (by omega)
         | cons _ _ _ _=>cases ap
        cases m with
        | true=>
          go_wp2_with fail
          go_meet
          case rel=>exact⟨by rw[ap];rfl,rfl⟩
        | false=>
          go_wp2_with fail
          go_meet
          case rel=>exact⟨by rw[ap];rfl,rfl⟩
      | false=>
        have hq:((k:Int)==((x.len - 1:Nat):Int))=false:=by
         have:=al.out
         cases r with
         | nil=>cases ap
         | cons _ _ _ _=>simp only[Pt.len]at this;exact beq_eq_false_iff_ne.2 (by omega)
        go_wp2_with fail
        go_meet
        case rel=>exact⟨by rw[ap];simp,rfl⟩
     case rest=>
      obtain⟨rfl,rfl⟩:=hcut
      clear hi
      obtain⟨x0,x2,x3,x4,x5,x6,x7,az,ax⟩:=aq.out _ aC.out
      have aK:=AF (NM.out _ az)
      have aL:=AF (NA.out wc)
      have aJ:=AF (TX.out wc (m&&r.isNil))
      go_wp2_with (first
       | (go_at_call 92;refine aK.out.mono ?_;rintro e w' ⟨rfl,rfl⟩)
       | (go_at_call 58;refine aL.out.mono ?_;rintro e w' ⟨rfl,rfl⟩))
      refine aJ.out.mono ?_
      rintro e w2 ⟨rfl,ao⟩
      have aB:Hid (Below (wr.heap.size+1) wc w2):=aC.out.trans (ao.mono ax)
      clear ao x0 x2 x3 x4 x5 x6 x7 az ax aK aL aJ
      obtain⟨x0,x2,x3,x4,x5,x6,x7,ao,aH⟩:=aq.out _ aB.out
      have E:=AF ao
      have V:=AF (KC.out _ ao)
      clear ao
      have Y:Hid ((gj h kd el (m&&r.isNil)&&(if h.kind=3\/h.kind=4 then Pt.form false kd&&Pt.form false el else true)&&Pt.form m r)=x.form m):=by unfold Hid;rw[<-HC.out];rfl
      obtain⟨nm,aa⟩:∃q,ex (bls h.names)=q:=⟨_,rfl⟩
      obtain⟨na,ah⟩:∃q,eK (bl h.name)=q:=⟨_,rfl⟩
      obtain⟨gd,ai⟩:∃q,jZ (bl h.text) (m&&r.isNil)=q:=⟨_,rfl⟩
      obtain⟨ad,aM⟩:∃q,h.text.toList.isEmpty=q:=⟨_,rfl⟩
      obtain⟨af,ay⟩:∃q,h.name.toList.isEmpty=q:=⟨_,rfl⟩
      obtain⟨kn,aP⟩:∃q,((kd.len:Int)==0)=q:=⟨_,rfl⟩
      obtain⟨en,aQ⟩:∃q,((el.len:Int)==0)=q:=⟨_,rfl⟩
      have I:(bl h.text).isEmpty=ad:=by rw[<-aM,ByteArray.toList_eq];rfl
      have J:(bl h.name).isEmpty=af:=by rw[<-ay,ByteArray.toList_eq];rfl
      have M:kd.isNil=kn:=by rw[<-aP];cases kd with | nil=>rfl | cons _ _ _ _=>simp only[Pt.isNil,Pt.len];symm;exact beq_eq_false_iff_ne.2 (by omega)
      have N:el.isNil=en:=by rw[<-aQ];cases el with | nil=>rfl | cons _ _ _ _=>simp only[Pt.isNil,Pt.len];symm;exact beq_eq_false_iff_ne.2 (by omega)
      have Z:(!h.root&&h.names.isEmpty)= !pp:=by
       rw[<-ag.out]
       cases h.root <;> cases h.names <;> simp
      rw[aa,ah,ai]
      by_cases h1:h.kind=1
      · have A:Hid ((gd&& !pp&&af&&kn&&en&&Pt.form m r)=x.form m):=by
         unfold Hid
         rw[<-Y.out,gj,if_pos h1,if_neg (by omega),ai,J,M,N,←Z]
         simp only[Bool.and_true,Bool.and_assoc]
        rw[h1]at x0
        clear Y aa ah ai I J M N Z ag h1
        cases gd with
        | false=>
          have G:Hid (false=x.form m):=by unfold Hid;rw[<-A.out];simp
          go_wp2_with fail
          go_ret
          exact⟨dZ G.out,E.out⟩
        | true=>
          cases pp with
          | true=>
            have G:Hid (false=x.form m):=by unfold Hid;rw[<-A.out];simp
            go_wp2_with fail
            go_ret
            exact⟨dZ G.out,E.out⟩
          | false=>
            cases af with
            | false=>
              have G:Hid (false=x.form m):=by unfold Hid;rw[<-A.out];simp
              go_wp2_with fail
              go_ret
              exact⟨dZ G.out,E.out⟩
            | true=>
              cases kn with
              | false=>
                have G:Hid (false=x.form m):=by unfold Hid;rw[<-A.out];simp
                go_wp2_with fail
                go_ret
                exact⟨dZ G.out,E.out⟩
              | true=>
                cases en with
                | false=>
                  have G:Hid (false=x.form m):=by unfold Hid;rw[<-A.out];simp
                  go_wp2_with fail
                  go_ret
                  exact⟨dZ G.out,E.out⟩
                | true=>
                  have G:Hid (Pt.form m r=x.form m):=by unfold Hid;rw[<-A.out];simp
                  go_wp2_with fail
                  exact⟨⟨k+1,r,by go_num,by have:=al.out;omega,G,ar,by omega,aj,E⟩,by simp[intOf];omega⟩
      by_cases h2:h.kind=2
      · have A:Hid ((nm&&ad&&af&&kn&&en&&Pt.form m r)=x.form m):=by
         unfold Hid
         rw[<-Y.out,gj,if_neg h1,if_pos h2,if_neg (by omega),aa,I,J,M,N]
         simp only[Bool.and_true,Bool.and_assoc]
        rw[h2]at x0
        clear Y aa ah ai I J M N Z ag h1 h2
        cases nm with
        | false=>
          have G:Hid (false=x.form m):=by unfold Hid;rw[<-A.out];simp
          go_wp2_with fail
          go_ret
          exact⟨dZ G.out,E.out⟩
        | true=>
          cases ad with
          | false=>
            have G:Hid (false=x.form m):=by unfold Hid;rw[<-A.out];simp
            go_wp2_with fail
            go_ret
            exact⟨dZ G.out,E.out⟩
          | true=>
            cases af with
            | false=>
              have G:Hid (false=x.form m):=by unfold Hid;rw[<-A.out];simp
              go_wp2_with fail
              go_ret
              exact⟨dZ G.out,E.out⟩
            | true=>
              cases kn with
              | false=>
                have G:Hid (false=x.form m):=by unfold Hid;rw[<-A.out];simp
                go_wp2_with fail
                go_ret
                exact⟨dZ G.out,E.out⟩
              | true=>
                cases en with
                | false=>
                  have G:Hid (false=x.form m):=by unfold Hid;rw[<-A.out];simp
                  go_wp2_with fail
                  go_ret
                  exact⟨dZ G.out,E.out⟩
                | true=>
                  have G:Hid (Pt.form m r=x.form m):=by unfold Hid;rw[<-A.out];simp
                  go_wp2_with fail
                  exact⟨⟨k+1,r,by go_num,by have:=al.out;omega,G,ar,by omega,aj,E⟩,by simp[intOf];omega⟩
      by_cases h3:h.kind=3
      · have A:Hid ((nm&&ad&&af&&Pt.form false kd&&Pt.form false el&&Pt.form m r)=x.form m):=by
         unfold Hid
         rw[<-Y.out,gj,if_neg h1,if_neg h2,if_pos (.inl h3),if_pos (.inl h3),aa,I,J]
         simp only[Bool.and_true,Bool.and_assoc]
        rw[h3]at x0
        clear Y aa ah ai I J M N Z ag h1 h2 h3
        cases nm with
        | false=>
          have G:Hid (false=x.form m):=by unfold Hid;rw[<-A.out];simp
          go_wp2_with fail
          go_ret
          exact⟨dZ G.out,E.out⟩
        | true=>
          cases ad with
          | false=>
            have G:Hid (false=x.form m):=by unfold Hid;rw[<-A.out];simp
            go_wp2_with fail
            go_ret
            exact⟨dZ G.out,E.out⟩
          | true=>
            cases af with
            | false=>
              have G:Hid (false=x.form m):=by unfold Hid;rw[<-A.out];simp
              go_wp2_with fail
              go_ret
              exact⟨dZ G.out,E.out⟩
            | true=>
              cases O:Pt.form false kd with
              | false=>
                have G:Hid (false=x.form m):=by unfold Hid;rw[<-A.out,O];simp
                unfold FmP at V
                rw[O]at V
                clear O
                go_wp2_with fail
                refine V.out.mono ?_
                rintro e w3 ⟨rfl,U⟩
                have K:Hid (Below w.heap.size w w3):=E.out.trans (U.mono E.out.size)
                clear U x0 x2 x3 x4 x5 x6 x7
                go_wp2_with fail
                go_ret
                exact⟨dZ G.out,K.out⟩
              | true=>
                have au:Hid ((Pt.form false el&&Pt.form m r)=x.form m):=by unfold Hid;rw[<-A.out,O];simp
                unfold FmP at V
                rw[O]at V
                clear O
                go_wp2_with fail
                refine V.out.mono ?_
                rintro e w3 ⟨rfl,U⟩
                have K:Hid (Below w.heap.size w w3):=E.out.trans (U.mono E.out.size)
                have aA:Hid (Below (wr.heap.size+1) wc w3):=aB.out.trans (U.mono aH)
                clear U x0 x2 x3 x4 x5 x6 x7
                obtain⟨x0,x2,x3,x4,x5,x6,x7,-,-⟩:=aq.out _ aA.out
                have ac:=AF (EC.out _ K.out)
                unfold FmP at ac
                cases R:Pt.form false el with
                | false=>
                  have G:Hid (false=x.form m):=by unfold Hid;rw[<-au.out,R];simp
                  rw[R]at ac
                  clear R
                  go_wp2_with fail
                  refine ac.out.mono ?_
                  rintro e w4 ⟨rfl,ab⟩
                  have am:Hid (Below w.heap.size w w4):=K.out.trans (ab.mono K.out.size)
                  clear ab x0 x2 x3 x4 x5 x6 x7
                  go_wp2_with fail
                  go_ret
                  exact⟨dZ G.out,am.out⟩
                | true=>
                  have G:Hid (Pt.form m r=x.form m):=by unfold Hid;rw[<-au.out,R];simp
                  rw[R]at ac
                  clear R
                  go_wp2_with fail
                  refine ac.out.mono ?_
                  rintro e w4 ⟨rfl,ab⟩
                  have am:Hid (Below w.heap.size w w4):=K.out.trans (ab.mono K.out.size)
                  clear ab x0 x2 x3 x4 x5 x6 x7
                  go_wp2_with fail
                  exact⟨⟨k+1,r,by go_num,by have:=al.out;omega,G,ar,by omega,aj,am⟩,by simp[intOf];omega⟩
      by_cases h4:h.kind=4
      · have A:Hid ((nm&&ad&&af&&Pt.form false kd&&Pt.form false el&&Pt.form m r)=x.form m):=by
         unfold Hid
         rw[<-Y.out,gj,if_neg h1,if_neg h2,if_pos (.inr h4),if_pos (.inr h4),aa,I,J]
         simp only[Bool.and_true,Bool.and_assoc]
        rw[h4]at x0
        clear Y aa ah ai I J M N Z ag h1 h2 h3 h4
        cases nm with
        | false=>
          have G:Hid (false=x.form m):=by unfold Hid;rw[<-A.out];simp
          go_wp2_with fail
          go_ret
          exact⟨dZ G.out,E.out⟩
        | true=>
          cases ad with
          | false=>
            have G:Hid (false=x.form m):=by unfold Hid;rw[<-A.out];simp
            go_wp2_with fail
            go_ret
            exact⟨dZ G.out,E.out⟩
          | true=>
            cases af with
            | false=>
              have G:Hid (false=x.form m):=by unfold Hid;rw[<-A.out];simp
              go_wp2_with fail
              go_ret
              exact⟨dZ G.out,E.out⟩
            | true=>
              cases O:Pt.form false kd with
              | false=>
                have G:Hid (false=x.form m):=by unfold Hid;rw[<-A.out,O];simp
                unfold FmP at V
                rw[O]at V
                clear O
                go_wp2_with fail
                refine V.out.mono ?_
                rintro e w3 ⟨rfl,U⟩
                have K:Hid (Below w.heap.size w w3):=E.out.trans (U.mono E.out.size)
                clear U x0 x2 x3 x4 x5 x6 x7
                go_wp2_with fail
                go_ret
                exact⟨dZ G.out,K.out⟩
              | true=>
                have au:Hid ((Pt.form false el&&Pt.form m r)=x.form m):=by unfold Hid;rw[<-A.out,O];simp
                unfold FmP at V
                rw[O]at V
                clear O
                go_wp2_with fail
                refine V.out.mono ?_
                rintro e w3 ⟨rfl,U⟩
                have K:Hid (Below w.heap.size w w3):=E.out.trans (U.mono E.out.size)
                have aA:Hid (Below (wr.heap.size+1) wc w3):=aB.out.trans (U.mono aH)
                clear U x0 x2 x3 x4 x5 x6 x7
                obtain⟨x0,x2,x3,x4,x5,x6,x7,-,-⟩:=aq.out _ aA.out
                have ac:=AF (EC.out _ K.out)
                unfold FmP at ac
                cases R:Pt.form false el with
                | false=>
                  have G:Hid (false=x.form m):=by unfold Hid;rw[<-au.out,R];simp
                  rw[R]at ac
                  clear R
                  go_wp2_with fail
                  refine ac.out.mono ?_
                  rintro e w4 ⟨rfl,ab⟩
                  have am:Hid (Below w.heap.size w w4):=K.out.trans (ab.mono K.out.size)
                  clear ab x0 x2 x3 x4 x5 x6 x7
                  go_wp2_with fail
                  go_ret
                  exact⟨dZ G.out,am.out⟩
                | true=>
                  have G:Hid (Pt.form m r=x.form m):=by unfold Hid;rw[<-au.out,R];simp
                  rw[R]at ac
                  clear R
                  go_wp2_with fail
                  refine ac.out.mono ?_
                  rintro e w4 ⟨rfl,ab⟩
                  have am:Hid (Below w.heap.size w w4):=K.out.trans (ab.mono K.out.size)
                  clear ab x0 x2 x3 x4 x5 x6 x7
                  go_wp2_with fail
                  exact⟨⟨k+1,r,by go_num,by have:=al.out;omega,G,ar,by omega,aj,am⟩,by simp[intOf];omega⟩
      by_cases h5:h.kind=5
      · have A:Hid ((nm&&ad&&na&&kn&&en&&Pt.form m r)=x.form m):=by
         unfold Hid
         rw[<-Y.out,gj,if_neg h1,if_neg h2,if_neg (by omega),if_pos h5,if_neg (by omega),aa,I,ah,M,N]
         simp only[Bool.and_true,Bool.and_assoc]
        rw[h5]at x0
        clear Y aa ah ai I J M N Z ag h1 h2 h3 h4 h5
        cases nm with
        | false=>
          have G:Hid (false=x.form m):=by unfold Hid;rw[<-A.out];simp
          go_wp2_with fail
          go_ret
          exact⟨dZ G.out,E.out⟩
        | true=>
          cases ad with
          | false=>
            have G:Hid (false=x.form m):=by unfold Hid;rw[<-A.out];simp
            go_wp2_with fail
            go_ret
            exact⟨dZ G.out,E.out⟩
          | true=>
            cases na with
            | false=>
              have G:Hid (false=x.form m):=by unfold Hid;rw[<-A.out];simp
              go_wp2_with fail
              go_ret
              exact⟨dZ G.out,E.out⟩
            | true=>
              cases kn with
              | false=>
                have G:Hid (false=x.form m):=by unfold Hid;rw[<-A.out];simp
                go_wp2_with fail
                go_ret
                exact⟨dZ G.out,E.out⟩
              | true=>
                cases en with
                | false=>
                  have G:Hid (false=x.form m):=by unfold Hid;rw[<-A.out];simp
                  go_wp2_with fail
                  go_ret
                  exact⟨dZ G.out,E.out⟩
                | true=>
                  have G:Hid (Pt.form m r=x.form m):=by unfold Hid;rw[<-A.out];simp
                  go_wp2_with fail
                  exact⟨⟨k+1,r,by go_num,by have:=al.out;omega,G,ar,by omega,aj,E⟩,by simp[intOf];omega⟩
      have A:Hid (false=x.form m):=by
       unfold Hid
       rw[<-Y.out,gj,if_neg h1,if_neg h2,if_neg (by omega),if_neg h5];simp
      have f1:((h.kind:Int)==1)=false:=beq_eq_false_iff_ne.2 (by omega)
      have f2:((h.kind:Int)==2)=false:=beq_eq_false_iff_ne.2 (by omega)
      have f3:((h.kind:Int)==3)=false:=beq_eq_false_iff_ne.2 (by omega)
      have f4:((h.kind:Int)==4)=false:=beq_eq_false_iff_ne.2 (by omega)
      have f5:((h.kind:Int)==5)=false:=beq_eq_false_iff_ne.2 (by omega)
      clear Y aa ah ai I J M N Z ag h1 h2 h3 h4 h5
      go_wp2_with fail
      go_ret
      exact⟨dZ A.out,E.out⟩
theorem yT (n:Nat):tZ n:=by
 induction n with
 | zero=>intro x h;exact absurd h (Nat.not_lt_zero _)
 | succ n m=>exact xr n m
theorem k8 (x:Pt)(m:Bool)(v:Value)(w:World)(o:x.sm)(r:x.cnt<=16777216)(hx:d8 (·<w.heap.size) w v x):Calls Tryz.prog 54 #[v,.bool m] w (FmP m x w):=
 yT (x.cnt+1) x (Nat.lt_succ_self _) m v w o r hx
end Go.Proofs.YtepcpgdfbaklfaaGreatDoor
