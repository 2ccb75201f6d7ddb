/- Contracts of lacunaref01.Alpha and Digit, lacunaref19.letters. The condition: the text takes at most 2 to the 47th bytes. -/
import Derived.Test.YtepcpgdfbaklfaaGreatDoorQcMath
import Derived.Test.YtepcpgdfbaklfaaGreatDoorQcTg0
set_option maxRecDepth 100000
set_option maxHeartbeats 40000000
set_option linter.unusedVariables false
set_option linter.unusedSimpArgs false
namespace Go.Proofs.YtepcpgdfbaklfaaGreatDoor
open Go.RowKit Go.Shelf
def rd (l:By)(i:Nat):Bool:=wdB (l.getD i 0)&&(decide (0<i)|| !dgB (l.getD i 0))
theorem uT (l:By)(i:Nat)(o:i<l.length)(h:rd l i=false):jG l=false:=by
 cases l with
 | nil=>simp at o
 | cons c r=>
   unfold rd at h
   unfold jG
   cases i with
   | zero=>
     simp only[List.getD_cons_zero]at h
     cases E:wdB c <;> cases A:dgB c <;> simp_all
   | succ i=>
     have m:i<r.length:=by simpa using o
     have hw:wdB (r.getD i 0)=false:=by simpa using h
     have:r.all wdB=false:=by
      rw[Bool.eq_false_iff]
      intro e
      have:=List.all_eq_true.1 e (r.getD i 0) (by rw[List.getD_eq_getElem?_getD,List.getElem?_eq_getElem m];exact List.getElem_mem m)
      rw[this]at hw;cases hw
     show(decide (r.length+1<=64)&& !dgB c&&wdB c&&r.all wdB)=false
     rw[this,Bool.and_false]
theorem sP (l:By)(h:∀i,i<l.length->rd l i=true):jG l=(decide (l≠[])&&decide (l.length<=64)):=by
 cases l with
 | nil=>rfl
 | cons c r=>
   have m:=h 0 (by simp)
   unfold rd at m
   simp at m
   have E:r.all wdB=true:=by
    rw[List.all_eq_true]
    intro x hx
    obtain⟨i,A⟩:=List.mem_iff_getElem?.1 hx
    have o:=(List.getElem?_eq_some_iff.1 A).1
    have:=h (i+1) (by simpa using o)
    unfold rd at this
    simp[List.getD_eq_getElem?_getD,A]at this
    exact this
   show(decide (r.length+1<=64)&& !dgB c&&wdB c&&r.all wdB)=_
   rw[m.1,m.2,E]
   simp
theorem zX (c:UInt8):eZ ((c.toNat:Nat):Int)=alB c:=by unfold eZ alB;rw[Bool.eq_iff_iff];simp;omega
theorem zV (c:UInt8):eT ((c.toNat:Nat):Int)=dgB c:=by unfold eT dgB;rw[Bool.eq_iff_iff];simp;omega
theorem vQ (s:ByteArray)(i:Nat)(h:i<s.size):(bl s).getD i 0=s[i]:=qw s i h
theorem u95 (c:UInt8):((c.toNat:Int)==95)=decide (c=95):=by
 rw[Bool.eq_iff_iff];simp
 constructor
 · intro h;exact UInt8.toNat_inj.1 (show c.toNat=95 by omega)
 · rintro rfl;rfl
theorem iO (s:ByteArray)(hs:s.size<=140737488351232)(w:World):
 Calls Tryz.prog 94 #[.string s] w λe w'=>e=.returned (.bool (jG (bl s)))/\w=w':=by
 have HY:=AF (sP (bl s))
 have HN:=AF (uT (bl s))
 obtain⟨R,hR⟩:∃R,jG (bl s)=R:=⟨_,rfl⟩
 rw[hR]at HY HN ⊢
 go_enter Tryz.func94,Tryz.ntmps94
 go_wp2_with fail
 go_loopw [3] (λi wr=>∃k:Nat,i=.int .i64 (k:Nat)/\k<=s.size/\wr=w/\Hid (∀j,j<k->rd (bl s) j=true)) (λi _=>s.size - (intOf i).toNat)
 case atStart=>exact⟨0,rfl,Nat.zero_le _,rfl,λj hj=>by omega⟩
 case round=>
  obtain⟨k,rfl,hk,rfl,HK⟩:=hrel
  by_cases W:k<s.size
  · have E:(k:Int)<(s.size:Int):=by omega
    obtain⟨c,hc⟩:∃c,s[k]=c:=⟨_,rfl⟩
    have I:(bl s).getD k 0=c:=by rw[vQ s k W,hc]
    have AL:Hid (Calls Tryz.prog 135 #[.int .i32 ((c.toNat:Nat):Int)] wr λe w'=>e=.returned (.bool (alB c))/\wr=w'):=by have:=oE ((c.toNat:Nat):Int) wr;rwa[zX]at this
    have DG:Hid (Calls Tryz.prog 136 #[.int .i32 ((c.toNat:Nat):Int)] wr λe w'=>e=.returned (.bool (dgB c))/\wr=w'):=by have:=oh ((c.toNat:Nat):Int) wr;rwa[zV]at this
    have ad:=u95 c
    have ac:(0:Int)<=(c.toNat:Int):=by omega
    have ab:(c.toNat:Int)<=255:=by have:=c.toNat_lt;omega
    have V:Hid (rd (bl s) k=((alB c||dgB c||decide (c=95))&&(decide (0<k)|| !dgB c))):=by unfold Hid rd;rw[I];rfl
    have aa:(bl s).length=s.size:=rfl
    have o:Hid (rd (bl s) k=true->∀j,j<k+1->rd (bl s) j=true):=λh j hj=>by
     rcases Nat.lt_succ_iff_lt_or_eq.1 hj with N | rfl
     · exact HK.out j N
     · exact h
    have K:Hid (rd (bl s) k=false->R=false):=λh=>HN.out k (by omega) h
    have Z:Hid (((alB c||decide (c=95))&&dgB c)=false):=by
     unfold Hid
     rw[Bool.eq_false_iff]
     intro h
     simp[alB,dgB]at h
     obtain⟨N,h2⟩:=h
     rcases N with N | rfl
     · omega
     · simp at h2
    clear I
    generalize decide (c=95)=M at*
    generalize alB c=U at*
    generalize dgB c=r at*
    by_cases G:0<k
    · have J:decide (0<k)=true:=decide_eq_true G
      have m:Hid (rd (bl s) k=((U||r||M)&&(true|| !r))):=by unfold Hid;rw[V.out,J]
      clear J V
      cases U <;> cases M <;> cases r <;> (
       go_wp2_with (first | (go_at_call 135;refine AL.out.mono ?_;rintro e w' ⟨rfl,rfl⟩) | (go_at_call 136;refine DG.out.mono ?_;rintro e w' ⟨rfl,rfl⟩))
       first
        | exact⟨⟨k+1,by go_num,by omega,trivial,o.out m.out⟩,by simp[intOf];omega⟩
        | exact⟨⟨k+1,by go_num,by omega,rfl,o.out m.out⟩,by simp[intOf];omega⟩
        | (go_ret
           exact⟨dZ (K.out m.out).symm,rfl⟩))
    · have J:decide (0<k)=false:=decide_eq_false G
      have m:Hid (rd (bl s) k=((U||r||M)&&(false|| !r))):=by unfold Hid;rw[V.out,J]
      clear J V
      cases U <;> cases M <;> cases r <;> first | exact absurd Z.out (by decide) | (
       go_wp2_with (first | (go_at_call 135;refine AL.out.mono ?_;rintro e w' ⟨rfl,rfl⟩) | (go_at_call 136;refine DG.out.mono ?_;rintro e w' ⟨rfl,rfl⟩))
       first
        | exact⟨⟨k+1,by go_num,by omega,trivial,o.out m.out⟩,by simp[intOf];omega⟩
        | exact⟨⟨k+1,by go_num,by omega,rfl,o.out m.out⟩,by simp[intOf];omega⟩
        | (go_ret
           exact⟨dZ (K.out m.out).symm,rfl⟩))
  · have E:¬(k:Int)<(s.size:Int):=by omega
    have HR:Hid (R=(decide (bl s≠[])&&decide ((bl s).length<=64))):=HY.out (λi hi=>HK.out i (by have:(bl s).length=s.size:=rfl;omega))
    by_cases O:s.size=0
    · have he:s.toList.isEmpty=true:=by rw[ia s O,ByteArray.toList_eq];rfl
      have Y:Hid (R=false):=by unfold Hid;rw[HR.out,ia s O];rfl
      clear O
      go_wp2_with fail
      go_ret
      exact⟨dZ Y.out.symm,rfl⟩
    · have he:=iN s (by omega)
      have A:bl s≠[]:=by intro e;have q:(bl s).length=s.size:=rfl;rw[e]at q;simp at q;omega
      have Y:Hid (R=decide ((s.size:Int)<=64)):=by
       unfold Hid;rw[HR.out,decide_eq_true A,Bool.true_and,Bool.eq_iff_iff]
       simp
       have q:(bl s).length=s.size:=rfl
       omega
      clear O A
      go_wp2_with fail
      go_ret
      exact⟨dZ Y.out.symm,rfl⟩
def amF (s w:By):Nat->Nat->Nat->Bool
 | 0,_,_=>false
 | f+1,i,j=>if w.length<i then false else if i=w.length\/w.getD i 0=32 then(if(w.drop j).take (i - j)=s/\s≠[]then true else amF s w f (i+1) (i+1))else amF s w f (i+1) j
def xW:ByteArray:=⟨#[105,102,32,101,108,115,101,32,101,110,100,32,114,97,110,103,101,32,99,97,108,108,32,100,101,102,105,110,101]⟩
theorem zj (s:By):amF s (bl xW) 30 0 0=kws.contains s:=by
 have e:amF s (bl xW) 30 0 0=(if kIf=s/\s≠[]then true else if fX=s/\s≠[]then true else if jS=s/\s≠[]then true else if eu=s/\s≠[]then true else if eY=s/\s≠[]then true else if lK=s/\s≠[]then true else false):=rfl
 rw[e]
 by_cases G:kIf=s
 · subst G;rfl
 by_cases E:fX=s
 · subst E;rfl
 by_cases A:jS=s
 · subst A;rfl
 by_cases r:eu=s
 · subst r;rfl
 by_cases o:eY=s
 · subst o;rfl
 by_cases m:lK=s
 · subst m;rfl
 rw[if_neg (λh=>G h.1),if_neg (λh=>E h.1),if_neg (λh=>A h.1),if_neg (λh=>r h.1),if_neg (λh=>o h.1),if_neg (λh=>m h.1)]
 symm
 rw[Bool.eq_false_iff]
 intro h
 simp[kws]at h
 rcases h with h | h | h | h | h | h
 · exact G h.symm
 · exact E h.symm
 · exact A h.symm
 · exact r h.symm
 · exact o h.symm
 · exact m h.symm
theorem pN (s m:ByteArray)(hs:s.size<=140737488351232)(hw:m.size<=16777216)(w:World):
 Calls Tryz.prog 95 #[.string s,.string m] w λe w'=>e=.returned (.bool (amF (bl s) (bl m) (m.size+1) 0 0))/\w=w':=by
 obtain⟨R,hR⟩:∃R,amF (bl s) (bl m) (m.size+1) 0 0=R:=⟨_,rfl⟩
 rw[hR]
 go_enter Tryz.func95,Tryz.ntmps95
 go_wp2_with fail
 go_loopw [5,6] (λv5 v6 wr=>∃j i f:Nat,v5=.int .i64 (j:Nat)/\v6=.int .i64 (i:Nat)/\j<=i/\i<=m.size+1/\m.size+1<=i+f/\wr=w/\Hid (amF (bl s) (bl m) f i j=R)) (λ_ i _=>m.size+2 - (intOf i).toNat)
 case atStart=>exact⟨0,0,m.size+1,rfl,rfl,AG _,by omega,by omega,rfl,hR⟩
 case round=>
  obtain⟨j,i,f,rfl,rfl,ad,hi,hf,rfl,O⟩:=hrel
  have ac:(bl m).length=m.size:=rfl
  by_cases W:i<=m.size
  · have V:(i:Int)<=(m.size:Int):=by omega
    obtain⟨f,rfl⟩:∃g,f=g+1:=⟨f - 1,by omega⟩
    have K:(m.extract j i).toList=((bl m).drop j).take (i - j):=by
     rw[ByteArray.toList_eq];show bl _=_
     unfold bl;simp[ByteArray.data_extract]
    have ae:(j:Int)<=(i:Int):=by omega
    by_cases G:i=m.size
    · have U:((i:Int)==(m.size:Int))=true:=by rw[G];exact beq_self_eq_true _
      have A:Hid (amF (bl s) (bl m) (f+1) i j=if((bl m).drop j).take (i - j)=bl s/\bl s≠[]then true else amF (bl s) (bl m) f (i+1) (i+1)):=by
       unfold Hid;rw[amF,if_neg (by omega),if_pos (.inl (by omega))]
      have ab:i<=m.size:=W
      clear G
      by_cases r:((bl m).drop j).take (i - j)=bl s
      · have q1:((m.extract j i).toList==s.toList)=true:=by rw[K,r,ByteArray.toList_eq];exact beq_self_eq_true _
        by_cases N:s.size=0
        · have he:s.toList.isEmpty=true:=by rw[ia s N,ByteArray.toList_eq];rfl
          have J:bl s=[]:=by rw[ia s N];rfl
          have o:Hid (amF (bl s) (bl m) f (i+1) (i+1)=R):=by unfold Hid;rw[<-O.out,A.out,if_neg (λh=>h.2 J)]
          clear r N J K
          go_wp2_with fail
          exact⟨⟨i+1,i+1,f,by go_num,by go_num,by omega,by omega,by omega,by first | trivial | rfl,o⟩,by simp[intOf];omega⟩
        · have he:=iN s (by omega)
          have I:bl s≠[]:=by intro e;have q:(bl s).length=s.size:=rfl;rw[e]at q;simp at q;omega
          have Y:Hid (true=R):=by unfold Hid;rw[<-O.out,A.out,if_pos ⟨r,I⟩]
          clear r N I K
          go_wp2_with fail
          go_ret
          exact⟨dZ Y.out,by first | trivial | rfl⟩
      · have q1:((m.extract j i).toList==s.toList)=false:=by rw[K,ByteArray.toList_eq];exact beq_eq_false_iff_ne.2 r
        have o:Hid (amF (bl s) (bl m) f (i+1) (i+1)=R):=by unfold Hid;rw[<-O.out,A.out,if_neg (λh=>r h.1)]
        clear r K
        go_wp2_with fail
        exact⟨⟨i+1,i+1,f,by go_num,by go_num,by omega,by omega,by omega,by first | trivial | rfl,o⟩,by simp[intOf];omega⟩
    · have U:((i:Int)==(m.size:Int))=false:=beq_eq_false_iff_ne.2 (by omega)
      have Z:i<m.size:=by omega
      have M:(bl m).getD i 0=m[i]:=vQ m i Z
      have aa:¬(i:Int)=(m.size:Int):=by omega
      by_cases E:m[i]=32
      · have q3:((m[i].toNat:Int)==32)=true:=by rw[E];rfl
        have A:Hid (amF (bl s) (bl m) (f+1) i j=if((bl m).drop j).take (i - j)=bl s/\bl s≠[]then true else amF (bl s) (bl m) f (i+1) (i+1)):=by
         unfold Hid;rw[amF,if_neg (by omega),if_pos (.inr (by rw[M,E]))]
        clear G M E
        by_cases r:((bl m).drop j).take (i - j)=bl s
        · have q1:((m.extract j i).toList==s.toList)=true:=by rw[K,r,ByteArray.toList_eq];exact beq_self_eq_true _
          by_cases N:s.size=0
          · have he:s.toList.isEmpty=true:=by rw[ia s N,ByteArray.toList_eq];rfl
            have J:bl s=[]:=by rw[ia s N];rfl
            have o:Hid (amF (bl s) (bl m) f (i+1) (i+1)=R):=by unfold Hid;rw[<-O.out,A.out,if_neg (λh=>h.2 J)]
            clear r N J K
            go_wp2_with fail
            exact⟨⟨i+1,i+1,f,by go_num,by go_num,by omega,by omega,by omega,by first | trivial | rfl,o⟩,by simp[intOf];omega⟩
          · have he:=iN s (by omega)
            have I:bl s≠[]:=by intro e;have q:(bl s).length=s.size:=rfl;rw[e]at q;simp at q;omega
            have Y:Hid (true=R):=by unfold Hid;rw[<-O.out,A.out,if_pos ⟨r,I⟩]
            clear r N I K
            go_wp2_with fail
            go_ret
            exact⟨dZ Y.out,by first | trivial | rfl⟩
        · have q1:((m.extract j i).toList==s.toList)=false:=by rw[K,ByteArray.toList_eq];exact beq_eq_false_iff_ne.2 r
          have o:Hid (amF (bl s) (bl m) f (i+1) (i+1)=R):=by unfold Hid;rw[<-O.out,A.out,if_neg (λh=>r h.1)]
          clear r K
          go_wp2_with fail
          exact⟨⟨i+1,i+1,f,by go_num,by go_num,by omega,by omega,by omega,by first | trivial | rfl,o⟩,by simp[intOf];omega⟩
      · have q3:((m[i].toNat:Int)==32)=false:=by
         refine beq_eq_false_iff_ne.2 (λe=>E ?_)
         exact UInt8.toNat_inj.1 (show _=(32:Nat) by omega)
        have o:Hid (amF (bl s) (bl m) f (i+1) j=R):=by
         unfold Hid;rw[<-O.out];symm
         rw[amF,if_neg (by omega),if_neg (by rintro(h | h);exact G (by omega);exact E (by rw[<-M];exact h))]
        clear G M E K
        go_wp2_with fail
        exact⟨⟨j,i+1,f,rfl,by go_num,by omega,by omega,by omega,by first | trivial | rfl,o⟩,by simp[intOf];omega⟩
  · have V:¬(i:Int)<=(m.size:Int):=by omega
    have Y:Hid (false=R):=by
     unfold Hid;rw[<-O.out]
     cases f with
     | zero=>rfl
     | succ f=>rw[amF,if_pos (by omega)]
    clear W
    go_wp2_with fail
    go_ret
    exact⟨dZ Y.out,by first | trivial | rfl⟩
theorem kS (s:ByteArray)(A:s.size<=140737488351232)(w:World):
 Calls Tryz.prog 58 #[.string s] w λe w'=>e=.returned (.bool (eK (bl s)))/\w=w':=by
 have L:=AF (iO s A w)
 have E:Hid (Calls Tryz.prog 95 #[.string s,.string xW] w λe w'=>e=.returned (.bool (kws.contains (bl s)))/\w=w'):=by
  have:=pN s xW A (by decide) w
  rw[show xW.size+1=30 from rfl,zj]at this
  exact this
 have r:Hid (eK (bl s)=(jG (bl s)&& !kws.contains (bl s))):=rfl
 unfold xW at E
 generalize eK (bl s)=n at*
 generalize kws.contains (bl s)=k at*
 cases o:jG (bl s)with
 | false=>
   have m:Hid (n=false):=by unfold Hid;rw[r.out,o];rfl
   rw[o]at L
   clear r o
   go_enter Tryz.func58,Tryz.ntmps58
   go_wp2_with fail
   refine L.out.mono ?_
   rintro e w' ⟨rfl,rfl⟩
   go_wp2_with fail
   go_ret
   exact⟨dZ m.out.symm,rfl⟩
 | true=>
   have m:Hid (n= !k):=by unfold Hid;rw[r.out,o];rfl
   rw[o]at L
   clear r o
   go_enter Tryz.func58,Tryz.ntmps58
   go_wp2_with fail
   refine L.out.mono ?_
   rintro e w' ⟨rfl,rfl⟩
   go_wp2_with fail
   refine E.out.mono ?_
   rintro e w' ⟨rfl,rfl⟩
   go_wp2_with fail
   go_ret
   exact⟨dZ m.out.symm,rfl⟩
def jx (c:UInt8)(l:By)(k:Nat):Int:=match gq c (l.drop k)with
 | none=> -1
 | some x=>((k+x.1.length:Nat):Int)
theorem yU (s:ByteArray)(i j:Nat)(h:j<=s.size):bl (s.extract i j)=((bl s).drop i).take (j - i):=by
 unfold bl
 simp[ByteArray.data_extract]
theorem s9 {c:UInt8}{l:By}{k:Nat}(h:(l.drop k).take 2=[c,c]):jx c l k=(k:Nat):=by
 unfold jx
 match m:l.drop k with
 | []=>rw[m]at h;simp at h
 | [x]=>rw[m]at h;simp at h
 | x::y::r=>
   rw[m]at h
   simp at h
   obtain⟨rfl,rfl⟩:=h
   simp[gq]
theorem xt {c:UInt8}{l:By}{k:Nat}(A:k+2<=l.length)(h:¬(l.drop k).take 2=[c,c]):jx c l k=jx c l (k+1):=by
 unfold jx
 have e:l.drop (k+1)=(l.drop k).drop 1:=by rw[List.drop_drop]
 rw[e]
 match m:l.drop k with
 | []=>have:=congrArg List.length m;simp at this;omega
 | [x]=>have:=congrArg List.length m;simp at this;omega
 | x::y::r=>
   rw[m]at h
   simp at h
   have o:¬(x=c/\y=c):=λq=>h q.1 q.2
   rw[List.drop_succ_cons,List.drop_zero]
   rw[gq,if_neg o]
   cases gq c (y::r)with
   | none=>rfl
   | some z=>
     simp
     omega
theorem vf {c:UInt8}{l:By}{k:Nat}(h:l.length<k+2):jx c l k= -1:=by
 unfold jx
 have m:(l.drop k).length<2:=by rw[List.length_drop];omega
 match o:l.drop k with
 | []=>rfl
 | [x]=>rfl
 | x::y::r=>rw[o]at m;simp at m;omega
theorem pB (s:ByteArray)(r:Nat)(N:s.size<=16777216)(I:r<=s.size)(w:World):
 Calls Tryz.prog 134 #[.string s,.string ⟨#[123,123]⟩,.int .i64 (r:Nat)] w λe w'=>e=.returned (.int .i64 (jx 123 (bl s) r))/\w=w':=by
 obtain⟨R,K⟩:∃R,jx 123 (bl s) r=R:=⟨_,rfl⟩
 rw[K]
 go_enter Tryz.func134,Tryz.ntmps134
 go_wp2_with fail
 go_loopw [7] (λi wr=>∃k:Nat,i=.int .i64 (k:Nat)/\k<=s.size/\wr=w/\Hid (jx 123 (bl s) k=R)) (λi _=>s.size+1 - (intOf i).toNat)
 case atStart=>exact⟨r,rfl,I,rfl,K⟩
 case round=>
  obtain⟨k,rfl,O,rfl,J⟩:=hrel
  have M:(⟨#[123,123]⟩:ByteArray).size=2:=rfl
  by_cases m:k+2<=s.size
  · have A:(k:Int)+2<=(s.size:Int):=by omega
    have G:(s.extract k (k+2)).toList=((bl s).drop k).take 2:=by rw[ByteArray.toList_eq];show bl _=_;rw[yU _ _ _ m,show k+2 - k=2 by omega]
    by_cases o:((bl s).drop k).take 2=[123,123]
    · have q1:((s.extract k (k+2)).toList==[123,123])=true:=by rw[G,o];rfl
      have E:Hid (((k:Nat):Int)=R):=by unfold Hid;rw[<-J.out,s9 o]
      clear G o m
      go_wp2_with fail
      go_ret
      exact⟨jN E.out,rfl⟩
    · have q1:((s.extract k (k+2)).toList==[123,123])=false:=by rw[G];exact beq_eq_false_iff_ne.2 o
      have E:Hid (jx 123 (bl s) (k+1)=R):=by unfold Hid;rw[<-J.out];exact(xt (by have e:(bl s).length=s.size:=rfl;omega) o).symm
      clear G o
      go_wp2_with fail
      exact⟨⟨k+1,by go_num,by omega,trivial,E⟩,by simp[intOf];omega⟩
  · have A:¬(k:Int)+2<=(s.size:Int):=by omega
    have E:Hid ((-1:Int)=R):=by unfold Hid;rw[<-J.out];exact(vf (by have e:(bl s).length=s.size:=rfl;omega)).symm
    clear m
    go_wp2_with fail
    go_ret
    exact⟨jN E.out,rfl⟩
attribute [local go_sem ↓] Go.wp_at_zero Go.wp_at_succ
def CtP (x:Pt)(w:World)(e:Ending)(w':World):Prop:=e=.returned (.int .i64 (x.cnt:Nat))/\Qt w w'
def ua (n:Nat):Prop:=∀(x:Pt),x.cnt<n->∀(ok:Nat->Prop) (v:Value) (w:World),x.cnt<=16777216->d8 ok w v x->Calls Tryz.prog 56 #[v] w (CtP x w)
theorem kY (x:Pt):x.len<=x.cnt:=by
 induction x with
 | nil=>exact AG _
 | cons h k e r _ _ m=>simp only[Pt.len,Pt.cnt];omega
theorem xG (n:Nat)(ih:ua n):ua (n+1):=by
 intro x hn ok v w an hx
 obtain⟨a,c,rfl,h1,h2,h3⟩:=hx.lt
 have HX:Hid (jX ok a w x 0):=λN=>by
  obtain⟨b,o,q1,q2,q3⟩:=h3 N
  exact⟨b,o,q1,q2,by rw[Nat.zero_mul,Nat.add_zero];exact q3⟩
 have IH:=AF ih
 have ah:=kY x
 clear h3 hx h1 h2 ih
 go_enter Tryz.func56,Tryz.ntmps56
 go_wp2_with fail
 go_loopw [3,4] (λv5 v6 wr=>∃(s k:Nat) (r:Pt),v5=.int .i64 (s:Nat)/\v6=.int .i64 (k:Nat)/\k+r.len=x.len/\s+r.cnt=x.cnt+r.len/\Hid (jX ok a w r k)/\r.cnt<=x.cnt/\Hid (Qt w wr)) (λ_ i _=>x.len - (intOf i).toNat)
 case atStart=>exact⟨x.len,0,x,rfl,rfl,by omega,by omega,HX,AG _,Qt.refl _⟩
 case round=>
  obtain⟨s,k,r,rfl,rfl,K,m,HR,O,I⟩:=hrel
  cases r with
  | nil=>
    simp only[Pt.len,Pt.cnt]at K m
    have am:¬(k:Int)<(x.len:Int):=by omega
    have M:s=x.cnt:=by omega
    subst M
    go_wp2_with fail
    go_ret
    exact⟨rfl,I.out⟩
  | cons h A G r=>
    simp only[Pt.len]at K m
    simp only[Pt.cnt]at O m
    have ai:(k:Int)<(x.len:Int):=by omega
    have al:(0:Int)<=(k:Int):=by omega
    obtain⟨b,o,rfl,R,E⟩:=HR.out (by simp)
    have ab:Hid (jX ok (some ⟨b,o,none⟩) w r (k+1)):=λ_=>⟨b,o,rfl,R,by have:=E.2.2.2;rwa[show o+k*8+8=o+(k+1)*8 by omega]at this⟩
    obtain⟨-,⟨Y,ck,g6,k1,k2,k3⟩,⟨Z,V,g7,e1,e2,e3⟩,-⟩:=E
    have KC:Hid (∀W,Qt w W->Calls Tryz.prog 56 #[.slice Y A.len ck] W λe w'=>e=.returned (.int .i64 (A.cnt:Nat))/\∃n,w'=W.drewN n):=λW U=>
     IH.out A (by omega) (λb=>ok b/\b<w.heap.size) _ W (by omega) (d8.kept ⟨Y,ck,rfl,k1,k2,k3⟩ (λb R=>U.block b))
    have EC:Hid (∀W,Qt w W->Calls Tryz.prog 56 #[.slice Z G.len V] W λe w'=>e=.returned (.int .i64 (G.cnt:Nat))/\∃n,w'=W.drewN n):=λW U=>
     IH.out G (by omega) (λb=>ok b/\b<w.heap.size) _ W (by omega) (d8.kept ⟨Z,V,rfl,e1,e2,e3⟩ (λb R=>U.block b))
    have p6:wr.cell? ⟨b,o+k*8+6,none⟩=some (.slice Y A.len ck):=(I.out.cell ⟨b,_,none⟩).trans g6
    have p7:wr.cell? ⟨b,o+k*8+7,none⟩=some (.slice Z G.len V):=(I.out.cell ⟨b,_,none⟩).trans g7
    have ag:IntKind.i64.wrap ((s:Int)+(A.cnt:Int))=(s:Int)+(A.cnt:Int):=IntWalk.i64_in _ ⟨by omega,by omega⟩
    have af:IntKind.i64.wrap ((s:Int)+(A.cnt:Int)+(G.cnt:Int))=(s:Int)+(A.cnt:Int)+(G.cnt:Int):=IntWalk.i64_in _ ⟨by omega,by omega⟩
    clear k3 e3 g6 g7
    have ac:=AF K
    have aa:=AF m
    have aj:k+1+r.len<=x.len:=by omega
    clear K m
    go_wp2_with fail
    go_quiet ((go_at_call 56;first | with_reducible exact Calls.quiet_of (KC.out _ (I.out.drewN _)) | with_reducible exact Calls.quiet_of (EC.out _ (I.out.drewN _))))
    generalize J:World.drewN wr _=w1
    have ad:Hid (Qt w w1):=by rw[<-J];exact I.out.drewN _
    clear J
    go_wp2_with fail
    exact⟨⟨s+A.cnt+G.cnt,k+1,r,by go_num,by go_num,by have:=ac.out;omega,by have:=aa.out;omega,ab,by omega,ad⟩,by simp[intOf];omega⟩
theorem za (n:Nat):ua n:=by
 induction n with
 | zero=>intro x h;exact absurd h (Nat.not_lt_zero _)
 | succ n m=>exact xG n m
theorem j9 (x:Pt)(ok:Nat->Prop)(v:Value)(w:World)(m:x.cnt<=16777216)(hx:d8 ok w v x):Calls Tryz.prog 56 #[v] w (CtP x w):=
 za (x.cnt+1) x (Nat.lt_succ_self _) ok v w m hx
def DpP (x:Pt)(w:World)(e:Ending)(w':World):Prop:=e=.returned (.int .i64 (x.deep:Nat))/\Qt w w'
def t8 (n:Nat):Prop:=∀(x:Pt),x.cnt<n->∀(ok:Nat->Prop) (v:Value) (w:World),x.cnt<=16777216->d8 ok w v x->Calls Tryz.prog 55 #[v] w (DpP x w)
theorem jy (x:Pt):x.deep<=x.cnt:=by
 induction x with
 | nil=>exact AG _
 | cons h k e r o A m=>simp only[Pt.deep,Pt.cnt];split <;> omega
theorem xC (n:Nat)(ih:t8 n):t8 (n+1):=by
 intro x hn ok v w ao hx
 obtain⟨a,c,rfl,h1,h2,V⟩:=hx.lt
 have HX:Hid (jX ok a w x 0):=λaa=>by
  obtain⟨b,o,q1,q2,q3⟩:=V aa
  exact⟨b,o,q1,q2,by rw[Nat.zero_mul,Nat.add_zero];exact q3⟩
 have IH:=AF ih
 have af:=kY x
 have al:=jy x
 clear V hx h1 h2 ih
 go_enter Tryz.func55,Tryz.ntmps55
 go_wp2_with fail
 go_loopw [3,4] (λv5 v6 wr=>∃(s k:Nat) (r:Pt),v5=.int .i64 (s:Nat)/\v6=.int .i64 (k:Nat)/\k+r.len=x.len/\max s r.deep=x.deep/\Hid (jX ok a w r k)/\r.cnt<=x.cnt/\Hid (Qt w wr)) (λ_ i _=>x.len - (intOf i).toNat)
 case atStart=>exact⟨0,0,x,rfl,rfl,by omega,by omega,HX,AG _,Qt.refl _⟩
 case round=>
  obtain⟨s,k,r,rfl,rfl,Y,J,HR,ab,E⟩:=hrel
  cases r with
  | nil=>
    simp only[Pt.len,Pt.deep]at Y J
    have aj:¬(k:Int)<(x.len:Int):=by omega
    have Z:s=x.deep:=by omega
    subst Z
    go_wp2_with fail
    go_ret
    exact⟨rfl,E.out⟩
  | cons h G I r=>
    simp only[Pt.len]at Y
    simp only[Pt.cnt]at ab
    simp only[Pt.deep]at J
    have ag:(k:Int)<(x.len:Int):=by omega
    have ai:(0:Int)<=(k:Int):=by omega
    obtain⟨b,o,rfl,hb,N⟩:=HR.out (by simp)
    have O:Hid (jX ok (some ⟨b,o,none⟩) w r (k+1)):=λ_=>⟨b,o,rfl,hb,by have:=N.2.2.2;rwa[show o+k*8+8=o+(k+1)*8 by omega]at this⟩
    obtain⟨⟨g0,-⟩,⟨ak,ck,g6,k1,k2,k3⟩,⟨ae,ce,g7,e1,e2,e3⟩,-⟩:=N
    have KC:Hid (∀W,Qt w W->Calls Tryz.prog 55 #[.slice ak G.len ck] W λe w'=>e=.returned (.int .i64 (G.deep:Nat))/\∃n,w'=W.drewN n):=λW hW=>
     IH.out G (by omega) (λb=>ok b/\b<w.heap.size) _ W (by omega) (d8.kept ⟨ak,ck,rfl,k1,k2,k3⟩ (λb hb=>hW.block b))
    have EC:Hid (∀W,Qt w W->Calls Tryz.prog 55 #[.slice ae I.len ce] W λe w'=>e=.returned (.int .i64 (I.deep:Nat))/\∃n,w'=W.drewN n):=λW hW=>
     IH.out I (by omega) (λb=>ok b/\b<w.heap.size) _ W (by omega) (d8.kept ⟨ae,ce,rfl,e1,e2,e3⟩ (λb hb=>hW.block b))
    have p0:wr.cell? ⟨b,o+k*8,none⟩=some (.int .u8 (h.kind:Nat)):=(E.out.cell ⟨b,_,none⟩).trans g0
    have p6:wr.cell? ⟨b,o+k*8+6,none⟩=some (.slice ak G.len ck):=(E.out.cell ⟨b,_,none⟩).trans g6
    have p7:wr.cell? ⟨b,o+k*8+7,none⟩=some (.slice ae I.len ce):=(E.out.cell ⟨b,_,none⟩).trans g7
    have am:=jy G
    have an:=jy I
    have ad:IntKind.i64.wrap (1+(G.deep:Int))=1+(G.deep:Int):=IntWalk.i64_in _ ⟨by omega,by omega⟩
    have ac:IntKind.i64.wrap (1+(I.deep:Int))=1+(I.deep:Int):=IntWalk.i64_in _ ⟨by omega,by omega⟩
    clear k3 e3 g6 g7 g0
    have R:=AF Y
    have A:=AF J
    have ah:k+1+r.len<=x.len:=by omega
    clear Y J
    by_cases K:h.kind=3\/h.kind=4
    · have M:Hid (max (max s (max (1+G.deep) (1+I.deep))) r.deep=x.deep):=by unfold Hid;rw[<-A.out,if_pos K,Nat.max_assoc]
      rcases K with V | h4
      · rw[V]at p0
        clear A V
        go_wp2_with fail
        go_quiet ((go_at_call 55;first | with_reducible exact Calls.quiet_of (KC.out _ (E.out.drewN _)) | with_reducible exact Calls.quiet_of (EC.out _ (E.out.drewN _))))
        generalize m:World.drewN wr _=w1
        have U:Hid (Qt w w1):=by rw[<-m];exact E.out.drewN _
        clear m
        go_wp2_with fail
        exact⟨⟨max s (max (1+G.deep) (1+I.deep)),k+1,r,by congr 1;(repeat' split) <;> omega,by go_num,by have:=R.out;omega,M.out,O,by omega,U⟩,by simp[intOf];omega⟩
      · rw[h4]at p0
        clear A h4
        go_wp2_with fail
        go_quiet ((go_at_call 55;first | with_reducible exact Calls.quiet_of (KC.out _ (E.out.drewN _)) | with_reducible exact Calls.quiet_of (EC.out _ (E.out.drewN _))))
        generalize m:World.drewN wr _=w1
        have U:Hid (Qt w w1):=by rw[<-m];exact E.out.drewN _
        clear m
        go_wp2_with fail
        exact⟨⟨max s (max (1+G.deep) (1+I.deep)),k+1,r,by congr 1;(repeat' split) <;> omega,by go_num,by have:=R.out;omega,M.out,O,by omega,U⟩,by simp[intOf];omega⟩
    · have M:Hid (max s r.deep=x.deep):=by unfold Hid;rw[<-A.out,if_neg K,Nat.zero_max]
      have f3:((h.kind:Int)==3)=false:=beq_eq_false_iff_ne.2 (by omega)
      have f4:((h.kind:Int)==4)=false:=beq_eq_false_iff_ne.2 (by omega)
      clear A K
      go_wp2_with fail
      exact⟨⟨s,k+1,r,rfl,by go_num,by have:=R.out;omega,M.out,O,by omega,E⟩,by simp[intOf];omega⟩
theorem yY (n:Nat):t8 n:=by
 induction n with
 | zero=>intro x h;exact absurd h (Nat.not_lt_zero _)
 | succ n m=>exact xC n m
theorem ll (x:Pt)(ok:Nat->Prop)(v:Value)(w:World)(m:x.cnt<=16777216)(hx:d8 ok w v x):Calls Tryz.prog 55 #[v] w (DpP x w):=
 yY (x.cnt+1) x (Nat.lt_succ_self _) ok v w m hx
def Am (m:List Df)(x:Pt)(w:World)(e:Ending)(w':World):Prop:=e=.returned (.bool (x.called m))/\Qt w w'
def pR (o:List Df)(n:Nat):Prop:=∀(x:Pt),x.cnt<n->∀(ok ok':Nat->Prop) (v m:Value) (w:World),x.cnt<=16777216->d8 ok w v x->fU ok' w m o->Calls Tryz.prog 57 #[v,m] w (Am o x w)
theorem pw (d:Df)(l:List Df)(n:By):eE (d::l) n=((bl d.name==n)||eE l n):=rfl
theorem vu (m:List Df)(aC:m.length<=16777216)(n:Nat)(ih:pR m n):pR m (n+1):=by
 intro x hn ok ok' v v' w aD hx hd
 have aj:=AF hd
 obtain⟨a,c,rfl,h1,h2,h3⟩:=hx.lt
 obtain⟨a',c',rfl,d1,d2,d3⟩:=hd
 have HX:Hid (jX ok a w x 0):=λal=>by
  obtain⟨b,o,q1,q2,q3⟩:=h3 al
  exact⟨b,o,q1,q2,by rw[Nat.zero_mul,Nat.add_zero];exact q3⟩
 have au:=AF d3
 have IH:=AF ih
 have aw:=kY x
 clear h3 hx h1 h2 ih d1 d2 d3
 go_enter Tryz.func57,Tryz.ntmps57
 go_wp2_with fail
 go_loopw [5] (λv5 wr=>∃(k:Nat) (r:Pt),v5=.int .i64 (k:Nat)/\k+r.len=x.len/\Hid (r.called m=x.called m)/\Hid (jX ok a w r k)/\r.cnt<=x.cnt/\Hid (Qt w wr)) (λi _=>x.len - (intOf i).toNat)
 case atStart=>exact⟨0,x,rfl,by omega,rfl,HX,AG _,Qt.refl _⟩
 case round=>
  obtain⟨k,r,rfl,hk,HC,HR,am,HB⟩:=hrel
  cases r with
  | nil=>
    simp only[Pt.len]at hk
    have aB:¬(k:Int)<(x.len:Int):=by omega
    have V:Hid (true=x.called m):=HC.out
    go_wp2_with fail
    go_ret
    exact⟨dZ V.out,HB.out⟩
  | cons h kd el r=>
    simp only[Pt.len]at hk
    simp only[Pt.cnt]at am
    have ax:(k:Int)<(x.len:Int):=by omega
    have az:(0:Int)<=(k:Int):=by omega
    obtain⟨b,o,rfl,hb,Z⟩:=HR.out (by simp)
    have ap:Hid (jX ok (some ⟨b,o,none⟩) w r (k+1)):=λ_=>⟨b,o,rfl,hb,by have:=Z.2.2.2;rwa[show o+k*8+8=o+(k+1)*8 by omega]at this⟩
    obtain⟨⟨g0,-,-,-,-,g5⟩,⟨ak,ck,g6,k1,k2,k3⟩,⟨ae,ce,g7,e1,e2,e3⟩,-⟩:=Z
    have KC:Hid (∀W,Qt w W->Calls Tryz.prog 57 #[.slice ak kd.len ck,.slice a' m.length c'] W λe w'=>e=.returned (.bool (kd.called m))/\∃n,w'=W.drewN n):=λW U=>
     IH.out kd (by omega) (λb=>ok b/\b<w.heap.size) ok' _ _ W (by omega) (d8.kept ⟨ak,ck,rfl,k1,k2,k3⟩ (λb hb=>U.block b)) (aj.out.kept (λb hb=>U.block b))
    have EC:Hid (∀W,Qt w W->Calls Tryz.prog 57 #[.slice ae el.len ce,.slice a' m.length c'] W λe w'=>e=.returned (.bool (el.called m))/\∃n,w'=W.drewN n):=λW U=>
     IH.out el (by omega) (λb=>ok b/\b<w.heap.size) ok' _ _ W (by omega) (d8.kept ⟨ae,ce,rfl,e1,e2,e3⟩ (λb hb=>U.block b)) (aj.out.kept (λb hb=>U.block b))
    have E:Hid (∀W,Qt w W->W.cell? ⟨b,o+k*8,none⟩=some (.int .u8 (h.kind:Nat))/\W.cell? ⟨b,o+k*8+5,none⟩=some (.string h.name)/\W.cell? ⟨b,o+k*8+6,none⟩=some (.slice ak kd.len ck)/\W.cell? ⟨b,o+k*8+7,none⟩=some (.slice ae el.len ce)):=λW U=>
     ⟨(U.cell ⟨b,_,none⟩).trans g0,(U.cell ⟨b,_,none⟩).trans g5,(U.cell ⟨b,_,none⟩).trans g6,(U.cell ⟨b,_,none⟩).trans g7⟩
    have aq:=AF hk
    have ay:k+1+r.len<=x.len:=by omega
    obtain⟨T,hT⟩:∃T,(decide (h.kind≠5)||eE m (bl h.name))=T:=⟨_,rfl⟩
    have ad:Hid ((T&&kd.called m&&el.called m&&r.called m)=x.called m):=by unfold Hid;rw[<-HC.out,←hT];rfl
    have ao:Hid ((((h.kind:Int)!=5)||eE (m.drop 0) (bl h.name))=T):=by
     unfold Hid
     rw[<-hT,List.drop_zero]
     congr 1
     rw[Bool.eq_iff_iff];simp;omega
    clear k3 e3 g0 g5 g6 g7 hk HC hT
    obtain⟨p0,p5,p6,p7⟩:=E.out _ HB.out
    go_wp2_with fail
    clear p0 p5 p6 p7
    go_loopw [6,7] (λv6 v7 wi=>∃(t:Bool) (j:Nat),v6=.bool t/\v7=.int .i64 (j:Nat)/\j<=m.length/\Hid ((t||eE (m.drop j) (bl h.name))=T)/\Hid (Qt w wi)) (λ_ j _=>m.length - (intOf j).toNat)
    case atStart=>exact⟨_,0,rfl,rfl,Nat.zero_le _,ao,HB⟩
    case round=>
     obtain⟨t,j,rfl,rfl,hj,HI,A⟩:=hrel
     obtain⟨p0,p5,p6,p7⟩:=E.out _ A.out
     have aA:(0:Int)<=(j:Int):=by omega
     by_cases K:j<m.length
     · have ah:(j:Int)<(m.length:Int):=by omega
       obtain⟨d,ab⟩:∃d,m[j]? =some d:=⟨_,List.getElem?_eq_getElem K⟩
       obtain⟨bd,od,rfl,-,ai⟩:=au.out (by intro e;rw[e]at K;simp at K)
       have pd:wr.cell? ⟨bd,od+j*3,none⟩=some (.string d.name):=(A.out.cell ⟨bd,_,none⟩).trans (hZ.at m bd od j d ab ai).1
       have ar:=AF (jU m j d ab)
       clear ab ai K
       cases t with
       | true=>
         have ac:Hid ((true||eE (m.drop (j+1)) (bl h.name))=T):=by unfold Hid;rw[<-HI.out];rfl
         go_wp2_with fail
         go_quiet (fail)
         generalize O:World.drewN wr _=w1
         have af:Hid (Qt w w1):=by rw[<-O];exact A.out.drewN _
         clear O
         go_wp2_with fail
         exact⟨⟨true,j+1,rfl,by go_num,by omega,ac,af⟩,by simp[intOf];omega⟩
       | false=>
         obtain⟨q,hq⟩:∃q,(bl d.name==bl h.name)=q:=⟨_,rfl⟩
         have av:(d.name.toList==h.name.toList)=q:=by rw[ByteArray.toList_eq,ByteArray.toList_eq];exact hq
         have ac:Hid ((q||eE (m.drop (j+1)) (bl h.name))=T):=by unfold Hid;rw[<-HI.out,ar.out,pw,hq];rfl
         clear hq
         go_wp2_with fail
         go_quiet (fail)
         generalize O:World.drewN wr _=w1
         have af:Hid (Qt w w1):=by rw[<-O];exact A.out.drewN _
         clear O
         go_wp2_with fail
         exact⟨⟨q,j+1,rfl,by go_num,by omega,ac,af⟩,by simp[intOf];omega⟩
     · have ah:¬(j:Int)<(m.length:Int):=by omega
       have an:t=T:=by have:=HI.out;rw[List.drop_of_length_le (by omega)]at this;rw[<-this];simp[eE]
       subst an
       clear K
       cases t with
       | false=>
         have V:Hid (false=x.called m):=by unfold Hid;rw[<-ad.out];rfl
         go_wp2_with fail
         go_ret
         exact⟨dZ V.out,A.out⟩
       | true=>
         have R:=AF (KC.out _ A.out)
         cases G:kd.called m with
         | false=>
           have V:Hid (false=x.called m):=by unfold Hid;rw[<-ad.out,G];rfl
           rw[G]at R
           clear G
           go_wp2_with fail
           refine R.out.mono ?_
           rintro e w3 ⟨rfl,N⟩
           have J:Hid (Qt w w3):=A.out.trans N
           clear N p0 p5 p6 p7
           go_wp2_with fail
           go_ret
           exact⟨dZ V.out,J.out⟩
         | true=>
           rw[G]at R
           have aa:Hid ((el.called m&&r.called m)=x.called m):=by unfold Hid;rw[<-ad.out,G];simp
           clear G
           go_wp2_with fail
           refine R.out.mono ?_
           rintro e w3 ⟨rfl,N⟩
           have J:Hid (Qt w w3):=A.out.trans N
           clear N p0 p5 p6 p7 R
           obtain⟨p0,p5,p6,p7⟩:=E.out _ J.out
           have Y:=AF (EC.out _ J.out)
           cases I:el.called m with
           | false=>
             have V:Hid (false=x.called m):=by unfold Hid;rw[<-aa.out,I];rfl
             rw[I]at Y
             clear I
             go_wp2_with fail
             refine Y.out.mono ?_
             rintro e w4 ⟨rfl,M⟩
             have ag:Hid (Qt w w4):=J.out.trans M
             clear M p0 p5 p6 p7
             go_wp2_with fail
             go_ret
             exact⟨dZ V.out,ag.out⟩
           | true=>
             have V:Hid (r.called m=x.called m):=by unfold Hid;rw[<-aa.out,I];rfl
             rw[I]at Y
             clear I
             go_wp2_with fail
             refine Y.out.mono ?_
             rintro e w4 ⟨rfl,M⟩
             have ag:Hid (Qt w w4):=J.out.trans M
             clear M p0 p5 p6 p7
             go_wp2_with fail
             exact⟨⟨k+1,r,by go_num,by have:=aq.out;omega,V,ap,by omega,ag⟩,by simp[intOf];omega⟩
theorem xN (o:List Df)(m:o.length<=16777216)(n:Nat):pR o n:=by
 induction n with
 | zero=>intro x h;exact absurd h (Nat.not_lt_zero _)
 | succ n r=>exact vu o m n r
theorem jB (m:List Df)(r:m.length<=16777216)(x:Pt)(ok ok':Nat->Prop)(v o:Value)(w:World)(E:x.cnt<=16777216)(hx:d8 ok w v x)(A:fU ok' w o m):Calls Tryz.prog 57 #[v,o] w (Am m x w):=
 xN m r (x.cnt+1) x (Nat.lt_succ_self _) ok ok' v o w E hx A
end Go.Proofs.YtepcpgdfbaklfaaGreatDoor
