/- Plain facts: what the document's answer for layer 1 reckons: how many bytes a code point has, between which code points a beginning lies, whether bytes begin a code point's. No program in sight, no condition. -/
import Derived.Test.YtepcpgdfbaklfaaGreatDoorQcTrq
import Derived.Test.YtepcpgdfbaklfaaGreatDoorQcLib
import Derived.Deep.RegionWith
set_option maxRecDepth 100000
set_option maxHeartbeats 4000000
set_option linter.unusedVariables false
namespace Go.Proofs.YtepcpgdfbaklfaaGreatDoor
open Go.Lib
def lg (c:Nat):Nat:=if c<128 then 1 else if 194<=c/\c<224 then 2 else if 224<=c/\c<240 then 3 else if 240<=c/\c<245 then 4 else 0
theorem yO (c:Nat):lg c<=4:=by unfold lg;(repeat' split) <;> omega
def mk0 (n:Nat):Int:=if n=2 then 192 else if n=3 then 224 else 240
def bx (b:List UInt8)(n i:Nat):Int×Int:=
 if i=0 then(((b.getD 0 0).toNat:Int) - mk0 n,((b.getD 0 0).toNat:Int) - mk0 n)
 else if i<b.length then(((b.getD i 0).toNat:Int) - 128,((b.getD i 0).toNat:Int) - 128)else(0,63)
def bnd (b:List UInt8)(n:Nat):Nat->Int×Int
 | 0=>(0,0)
 | i+1=>((bnd b n i).1*64+(bx b n i).1,(bnd b n i).2*64+(bx b n i).2)
theorem vw (b:List UInt8)(n i:Nat): -240<=(bx b n i).1/\(bx b n i).1<=255∧-240<=(bx b n i).2/\(bx b n i).2<=255:=by
 have o:=(b.getD 0 0).toNat_lt
 have m:=(b.getD i 0).toNat_lt
 unfold bx mk0
 (repeat' split) <;> simp only[] <;> omega
theorem mm (b:List UInt8)(n i:Nat)(m:i<=4): -8589934592<=(bnd b n i).1/\(bnd b n i).1<=8589934592∧-8589934592<=(bnd b n i).2/\(bnd b n i).2<=8589934592:=by
 have E:=vw b n 0
 have A:=vw b n 1
 have r:=vw b n 2
 have o:=vw b n 3
 match i,m with
 | 0,_=>simp[bnd]
 | 1,_=>simp only[bnd];omega
 | 2,_=>simp only[bnd];omega
 | 3,_=>simp only[bnd];omega
 | 4,_=>simp only[bnd];omega
def bgs (b:List UInt8):Bool:=
 let n:=lg (b.getD 0 0).toNat
 if n=0\/n<b.length then false
 else if((List.range b.length).drop 1).any (λi=>decide ((b.getD i 0).toNat<128\/191<(b.getD i 0).toNat))then false
 else if n=1 then true
 else
  let o:=max (bnd b n n).1 (if n=2 then 128 else if n=3 then 2048 else 65536)
  let m:=min (bnd b n n).2 (if n=2 then 2047 else if n=3 then 65535 else 1114111)
  if n=3/\55296<=o/\m<=57343 then false else decide (o<=m)
open Go.RowKit Go.Shelf
theorem l7 (c:Nat)(I:c<256)(w:World):
 Calls Tryz.prog 160 #[.int .u8 c] w λe w'=>e=.returned (.int .i64 (lg c:Nat))/\w'=w:=by
 have r:(0:Int)<=(c:Int):=by omega
 have o:(c:Int)<256:=by omega
 have key:∀m:Nat,Hid (lg c=m)->Ending.returned (.int .i64 (m:Int))=.returned (.int .i64 (lg c:Nat)):=λm h=>by rw[h.out]
 by_cases c1:(c:Int)<128
 · have h:Hid (lg c=1):=by unfold Hid lg;rw[if_pos (by omega)]
   go_enter Tryz.func160,Tryz.ntmps160
   go_wp2
   go_ret
   exact⟨key 1 h,rfl⟩
 by_cases c2:(c:Int)<194
 · have h:Hid (lg c=0):=by unfold Hid lg;rw[if_neg (by omega),if_neg (by omega),if_neg (by omega),if_neg (by omega)]
   have G:¬((194:Int)<=c):=by omega
   have E:¬((224:Int)<=c):=by omega
   have A:¬((240:Int)<=c):=by omega
   go_enter Tryz.func160,Tryz.ntmps160
   go_wp2
   go_ret
   exact⟨key 0 h,rfl⟩
 have G:(194:Int)<=c:=by omega
 by_cases c3:(c:Int)<224
 · have h:Hid (lg c=2):=by unfold Hid lg;rw[if_neg (by omega),if_pos (by omega)]
   go_enter Tryz.func160,Tryz.ntmps160
   go_wp2
   go_ret
   exact⟨key 2 h,rfl⟩
 have E:(224:Int)<=c:=by omega
 by_cases c4:(c:Int)<240
 · have h:Hid (lg c=3):=by unfold Hid lg;rw[if_neg (by omega),if_neg (by omega),if_pos (by omega)]
   go_enter Tryz.func160,Tryz.ntmps160
   go_wp2
   go_ret
   exact⟨key 3 h,rfl⟩
 have A:(240:Int)<=c:=by omega
 by_cases c5:(c:Int)<245
 · have h:Hid (lg c=4):=by unfold Hid lg;rw[if_neg (by omega),if_neg (by omega),if_neg (by omega),if_pos (by omega)]
   go_enter Tryz.func160,Tryz.ntmps160
   go_wp2
   go_ret
   exact⟨key 4 h,rfl⟩
 · have h:Hid (lg c=0):=by unfold Hid lg;rw[if_neg (by omega),if_neg (by omega),if_neg (by omega),if_neg (by omega)]
   go_enter Tryz.func160,Tryz.ntmps160
   go_wp2
   go_ret
   exact⟨key 0 h,rfl⟩
theorem gk (s:ByteArray)(k:Nat)(m:k<s.size):s.data.toList.getD k 0=s[k]:=by
 rw[List.getD_eq_getElem?_getD,List.getElem?_eq_getElem (by simpa using m)];rfl
theorem gU (s:ByteArray)(h0:0<s.size)(w:World):
 Calls Tryz.prog 161 #[.string s,.int .i64 2] w λe w'=>e=.returned (.tuple #[.int .i64 (bnd s.data.toList 2 2).1,.int .i64 (bnd s.data.toList 2 2).2])/\Below w.heap.size w w':=by
 have hB:=λk U=>AF (mm s.data.toList 2 k U)
 have G:∀w,(Instr.index 9 (.string s) (.int .i64 0)).run Tryz.prog w=.ok (.int .u8 ((s.data.toList.getD 0 0).toNat:Nat)) w:=by
  intro w
  rw[run_index_string w _ _ _ _ Tryz.underlying9,dif_pos ⟨by omega,by omega⟩,gk s 0 h0]
  rfl
 have M:=(s.data.toList.getD 0 0).toNat_lt
 go_enter Tryz.func161,Tryz.ntmps161
 go_wp2
 go_loopw [6,7,8] (λW V K wr=>∃k:Nat,k<=2/\K=.int .i64 k/\W=.int .i64 (bnd s.data.toList 2 k).1/\V=.int .i64 (bnd s.data.toList 2 k).2/\Below w.heap.size w wr) (λ_ _ K _=>2 - (intOf K).toNat)
 case atStart=>exact⟨0,by omega,rfl,rfl,rfl,AH _ _⟩
 case round=>
  obtain⟨k,U,rfl,rfl,rfl,J⟩:=hrel
  by_cases Y:k<2
  · have N:(k:Int)<2:=by omega
    have aa:=(hB k (by omega)).out
    have A:Hid (bnd s.data.toList 2 (k+1)=((bnd s.data.toList 2 k).1*64+(bx s.data.toList 2 k).1,(bnd s.data.toList 2 k).2*64+(bx s.data.toList 2 k).2)):=rfl
    generalize E:(bnd s.data.toList 2 k).1=lo at*
    generalize I:(bnd s.data.toList 2 k).2=hi at*
    have ab:=AF E
    have ac:=AF I
    clear E I
    by_cases m:k=0
    · subst m
      have o:Hid (bx s.data.toList 2 0=(((s.data.toList.getD 0 0).toNat:Int) - 192,((s.data.toList.getD 0 0).toNat:Int) - 192)):=rfl
      generalize (s.data.toList.getD 0 0).toNat=c at*
      go_wp2_with fail
      go_region
      go_wp2
      refine⟨⟨0+1,by omega,rfl,?_,?_,(J.alloc J.size _).drew⟩,by simp[intOf]⟩
      · rw[A.out,o.out];congr 1;dsimp only;omega
      · rw[A.out,o.out];congr 1;dsimp only;omega
    · have R:((k:Int)==0)=false:=beq_eq_false_iff_ne.2 (by omega)
      clear G M
      by_cases r:k<s.size
      · have o:Hid (bx s.data.toList 2 k=((s[k].toNat:Int) - 128,(s[k].toNat:Int) - 128)):=by
         unfold Hid bx;rw[if_neg m,if_pos (by simpa using r),gk s k r]
        have Z:=s[k].toNat_lt
        clear m
        go_wp2
        refine⟨⟨k+1,by omega,by go_num,?_,?_,J⟩,by simp[intOf];omega⟩
        · rw[A.out,o.out]
        · rw[A.out,o.out]
      · have o:Hid (bx s.data.toList 2 k=(0,63)):=by
         unfold Hid bx;rw[if_neg m,if_neg (by simpa using r)]
        have O:¬((k:Int)<s.size):=by omega
        clear m
        go_wp2
        refine⟨⟨k+1,by omega,by go_num,?_,?_,J⟩,by simp[intOf];omega⟩
        · rw[A.out,o.out];congr 1;dsimp only;omega
        · rw[A.out,o.out]
  · obtain rfl:k=2:=by omega
    go_wp2
    go_ret2
    exact⟨rfl,J⟩
theorem gT (s:ByteArray)(h0:0<s.size)(w:World):
 Calls Tryz.prog 161 #[.string s,.int .i64 3] w λe w'=>e=.returned (.tuple #[.int .i64 (bnd s.data.toList 3 3).1,.int .i64 (bnd s.data.toList 3 3).2])/\Below w.heap.size w w':=by
 have hB:=λk U=>AF (mm s.data.toList 3 k U)
 have G:∀w,(Instr.index 9 (.string s) (.int .i64 0)).run Tryz.prog w=.ok (.int .u8 ((s.data.toList.getD 0 0).toNat:Nat)) w:=by
  intro w
  rw[run_index_string w _ _ _ _ Tryz.underlying9,dif_pos ⟨by omega,by omega⟩,gk s 0 h0]
  rfl
 have M:=(s.data.toList.getD 0 0).toNat_lt
 go_enter Tryz.func161,Tryz.ntmps161
 go_wp2
 go_loopw [6,7,8] (λW V K wr=>∃k:Nat,k<=3/\K=.int .i64 k/\W=.int .i64 (bnd s.data.toList 3 k).1/\V=.int .i64 (bnd s.data.toList 3 k).2/\Below w.heap.size w wr) (λ_ _ K _=>3 - (intOf K).toNat)
 case atStart=>exact⟨0,by omega,rfl,rfl,rfl,AH _ _⟩
 case round=>
  obtain⟨k,U,rfl,rfl,rfl,J⟩:=hrel
  by_cases Y:k<3
  · have N:(k:Int)<3:=by omega
    have aa:=(hB k (by omega)).out
    have A:Hid (bnd s.data.toList 3 (k+1)=((bnd s.data.toList 3 k).1*64+(bx s.data.toList 3 k).1,(bnd s.data.toList 3 k).2*64+(bx s.data.toList 3 k).2)):=rfl
    generalize E:(bnd s.data.toList 3 k).1=lo at*
    generalize I:(bnd s.data.toList 3 k).2=hi at*
    have ab:=AF E
    have ac:=AF I
    clear E I
    by_cases m:k=0
    · subst m
      have o:Hid (bx s.data.toList 3 0=(((s.data.toList.getD 0 0).toNat:Int) - 224,((s.data.toList.getD 0 0).toNat:Int) - 224)):=rfl
      generalize (s.data.toList.getD 0 0).toNat=c at*
      go_wp2_with fail
      go_region
      go_wp2
      refine⟨⟨0+1,by omega,rfl,?_,?_,(J.alloc J.size _).drew⟩,by simp[intOf]⟩
      · rw[A.out,o.out];congr 1;dsimp only;omega
      · rw[A.out,o.out];congr 1;dsimp only;omega
    · have R:((k:Int)==0)=false:=beq_eq_false_iff_ne.2 (by omega)
      clear G M
      by_cases r:k<s.size
      · have o:Hid (bx s.data.toList 3 k=((s[k].toNat:Int) - 128,(s[k].toNat:Int) - 128)):=by
         unfold Hid bx;rw[if_neg m,if_pos (by simpa using r),gk s k r]
        have Z:=s[k].toNat_lt
        clear m
        go_wp2
        refine⟨⟨k+1,by omega,by go_num,?_,?_,J⟩,by simp[intOf];omega⟩
        · rw[A.out,o.out]
        · rw[A.out,o.out]
      · have o:Hid (bx s.data.toList 3 k=(0,63)):=by
         unfold Hid bx;rw[if_neg m,if_neg (by simpa using r)]
        have O:¬((k:Int)<s.size):=by omega
        clear m
        go_wp2
        refine⟨⟨k+1,by omega,by go_num,?_,?_,J⟩,by simp[intOf];omega⟩
        · rw[A.out,o.out];congr 1;dsimp only;omega
        · rw[A.out,o.out]
  · obtain rfl:k=3:=by omega
    go_wp2
    go_ret2
    exact⟨rfl,J⟩
theorem jC (s:ByteArray)(h0:0<s.size)(w:World):
 Calls Tryz.prog 161 #[.string s,.int .i64 4] w λe w'=>e=.returned (.tuple #[.int .i64 (bnd s.data.toList 4 4).1,.int .i64 (bnd s.data.toList 4 4).2])/\Below w.heap.size w w':=by
 have hB:=λk U=>AF (mm s.data.toList 4 k U)
 have G:∀w,(Instr.index 9 (.string s) (.int .i64 0)).run Tryz.prog w=.ok (.int .u8 ((s.data.toList.getD 0 0).toNat:Nat)) w:=by
  intro w
  rw[run_index_string w _ _ _ _ Tryz.underlying9,dif_pos ⟨by omega,by omega⟩,gk s 0 h0]
  rfl
 have M:=(s.data.toList.getD 0 0).toNat_lt
 go_enter Tryz.func161,Tryz.ntmps161
 go_wp2
 go_loopw [6,7,8] (λW V K wr=>∃k:Nat,k<=4/\K=.int .i64 k/\W=.int .i64 (bnd s.data.toList 4 k).1/\V=.int .i64 (bnd s.data.toList 4 k).2/\Below w.heap.size w wr) (λ_ _ K _=>4 - (intOf K).toNat)
 case atStart=>exact⟨0,by omega,rfl,rfl,rfl,AH _ _⟩
 case round=>
  obtain⟨k,U,rfl,rfl,rfl,J⟩:=hrel
  by_cases Y:k<4
  · have N:(k:Int)<4:=by omega
    have aa:=(hB k (by omega)).out
    have A:Hid (bnd s.data.toList 4 (k+1)=((bnd s.data.toList 4 k).1*64+(bx s.data.toList 4 k).1,(bnd s.data.toList 4 k).2*64+(bx s.data.toList 4 k).2)):=rfl
    generalize E:(bnd s.data.toList 4 k).1=lo at*
    generalize I:(bnd s.data.toList 4 k).2=hi at*
    have ab:=AF E
    have ac:=AF I
    clear E I
    by_cases m:k=0
    · subst m
      have o:Hid (bx s.data.toList 4 0=(((s.data.toList.getD 0 0).toNat:Int) - 240,((s.data.toList.getD 0 0).toNat:Int) - 240)):=rfl
      generalize (s.data.toList.getD 0 0).toNat=c at*
      go_wp2_with fail
      go_region
      go_wp2
      refine⟨⟨0+1,by omega,rfl,?_,?_,(J.alloc J.size _).drew⟩,by simp[intOf]⟩
      · rw[A.out,o.out];congr 1;dsimp only;omega
      · rw[A.out,o.out];congr 1;dsimp only;omega
    · have R:((k:Int)==0)=false:=beq_eq_false_iff_ne.2 (by omega)
      clear G M
      by_cases r:k<s.size
      · have o:Hid (bx s.data.toList 4 k=((s[k].toNat:Int) - 128,(s[k].toNat:Int) - 128)):=by
         unfold Hid bx;rw[if_neg m,if_pos (by simpa using r),gk s k r]
        have Z:=s[k].toNat_lt
        clear m
        go_wp2
        refine⟨⟨k+1,by omega,by go_num,?_,?_,J⟩,by simp[intOf];omega⟩
        · rw[A.out,o.out]
        · rw[A.out,o.out]
      · have o:Hid (bx s.data.toList 4 k=(0,63)):=by
         unfold Hid bx;rw[if_neg m,if_neg (by simpa using r)]
        have O:¬((k:Int)<s.size):=by omega
        clear m
        go_wp2
        refine⟨⟨k+1,by omega,by go_num,?_,?_,J⟩,by simp[intOf];omega⟩
        · rw[A.out,o.out];congr 1;dsimp only;omega
        · rw[A.out,o.out]
  · obtain rfl:k=4:=by omega
    go_wp2
    go_ret2
    exact⟨rfl,J⟩
def gn (b:List UInt8):Bool:=((List.range b.length).drop 1).any (λi=>decide ((b.getD i 0).toNat<128\/191<(b.getD i 0).toNat))
theorem tv (b:List UInt8)(k:Nat)(o:1<=k)(m:k<b.length)(h:(b.getD k 0).toNat<128\/191<(b.getD k 0).toNat):gn b=true:=by
 unfold gn
 rw[List.any_eq_true]
 refine⟨k,?_,by simpa using h⟩
 rw[List.mem_iff_getElem?]
 exact⟨k - 1,by rw[List.getElem?_drop,show 1+(k - 1)=k by omega,List.getElem?_range m]⟩
theorem rv (b:List UInt8)(h:∀j,1<=j->j<b.length->128<=(b.getD j 0).toNat/\(b.getD j 0).toNat<=191):gn b=false:=by
 unfold gn
 rw[List.any_eq_false]
 intro x hx
 rw[List.mem_iff_getElem?]at hx
 obtain⟨i,m⟩:=hx
 rw[List.getElem?_drop]at m
 have o:1+i<b.length:=by
  have:=(List.getElem?_eq_some_iff.1 m).1
  simpa using this
 rw[List.getElem?_range o]at m
 obtain rfl:=Option.some.inj m
 have r:=h (1+i) (by omega) o
 rw[decide_eq_true_iff]
 omega
theorem qy (b:List UInt8)(n:Nat)(r:lg (b.getD 0 0).toNat=n):bgs b=(if n=0\/n<b.length then false
 else if gn b then false
 else if n=1 then true
 else
  let o:=max (bnd b n n).1 (if n=2 then 128 else if n=3 then 2048 else 65536)
  let m:=min (bnd b n n).2 (if n=2 then 2047 else if n=3 then 65535 else 1114111)
  if n=3/\55296<=o/\m<=57343 then false else decide (o<=m)):=by
 subst r;rfl
theorem fC (b:List UInt8)(n:Nat)(m:lg (b.getD 0 0).toNat=n)(h:n=0\/n<b.length):bgs b=false:=by
 rw[qy b n m,if_pos h]
theorem je (b:List UInt8)(n:Nat)(o:lg (b.getD 0 0).toNat=n)(h:gn b=true):bgs b=false:=by
 rw[qy b n o]
 by_cases m:n=0\/n<b.length
 · rw[if_pos m]
 · rw[if_neg m,if_pos h]
theorem tG (b:List UInt8)(m:lg (b.getD 0 0).toNat=1)(h:¬1<b.length)(o:gn b=false):bgs b=true:=by
 rw[qy b 1 m,if_neg (by omega),o,if_neg (by simp),if_pos rfl]
theorem fD (b:List UInt8)(n:Nat)(m:lg (b.getD 0 0).toNat=n)(G:n≠0)(h:¬n<b.length)(A:gn b=false)(E:n≠1)(f l:Int)
 (r:f=if n=2 then 128 else if n=3 then 2048 else 65536) (o:l=if n=2 then 2047 else if n=3 then 65535 else 1114111):
 bgs b=if n=3/\55296<=max (bnd b n n).1 f/\min (bnd b n n).2 l<=57343 then false else decide (max (bnd b n n).1 f<=min (bnd b n n).2 l):=by
 subst r o
 rw[qy b n m,if_neg (by omega),A,if_neg (by simp),if_neg E]
theorem oB (s:ByteArray)(W:0<s.size)(hs:s.size<=4)(w:World):
 Calls Tryz.prog 159 #[.string s] w λe w'=>e=.returned (.bool (bgs s.data.toList))/\Below w.heap.size w w':=by
 obtain⟨n,U⟩:∃n,lg (s.data.toList.getD 0 0).toNat=n:=⟨_,rfl⟩
 have ag:n<=4:=by rw[<-U];exact yO _
 have G:=AF U
 have A:s.data.toList.length=s.size:=by simp
 have ah:=AF A
 have Y:Hid (∀w,Calls Tryz.prog 160 #[.int .u8 (s[0].toNat:Nat)] w λe w'=>e=.returned (.int .i64 n)/\w'=w):=by
  intro w
  have R:=l7 s[0].toNat s[0].toNat_lt w
  have e:lg s[0].toNat=n:=by rw[<-gk s 0 W];exact U
  rw[e]at R
  exact R
 clear U
 by_cases ab:n=0
 · subst ab
   have o:=AF (fC s.data.toList 0 G.out (.inl rfl))
   go_enter Tryz.func159,Tryz.ntmps159
   go_wp2_with fail
   refine(Y.out _).mono ?_
   rintro e w' ⟨rfl,rfl⟩
   go_wp2
   go_ret
   exact⟨dZ o.out.symm,AH _ _⟩
 have ae:((n:Int)==0)=false:=beq_eq_false_iff_ne.2 (by omega)
 by_cases Z:n<s.size
 · have o:=AF (fC s.data.toList n G.out (.inr (by rw[A];exact Z)))
   have K:(n:Int)<s.size:=by omega
   go_enter Tryz.func159,Tryz.ntmps159
   go_wp2_with fail
   refine(Y.out _).mono ?_
   rintro e w' ⟨rfl,rfl⟩
   go_wp2
   go_ret
   exact⟨dZ o.out.symm,AH _ _⟩
 have K:¬((n:Int)<s.size):=by omega
 go_enter Tryz.func159,Tryz.ntmps159
 go_wp2_with fail
 refine(Y.out _).mono ?_
 rintro e w' ⟨rfl,rfl⟩
 go_wp2
 clear Y
 go_loop [4] (λv=>∃k:Nat,1<=k/\k<=s.size/\v=.int .i64 k/\Hid (∀j,1<=j->j<k->128<=(s.data.toList.getD j 0).toNat/\(s.data.toList.getD j 0).toNat<=191)) (λv=>s.size - (intOf v).toNat)
 case atStart=>exact⟨1,by omega,by omega,rfl,λj R h2=>by omega⟩
 case round=>
  obtain⟨k,ad,hk,rfl,HG⟩:=hrel
  by_cases ac:k<s.size
  · have af:(k:Int)<s.size:=by omega
    have N:=AF (gk s k ac)
    obtain⟨c,V⟩:∃c,s[k].toNat=c:=⟨_,rfl⟩
    have HC:=AF V
    by_cases hg:128<=c/\c<=191
    · have g1:¬((s[k].toNat:Int)<128):=by omega
      have g2:¬((191:Int)<(s[k].toNat:Int)):=by omega
      clear V
      go_wp2
      refine⟨⟨k+1,by omega,by omega,by go_num,?_⟩,by simp[intOf];omega⟩
      intro j R h2
      by_cases e:j=k
      · subst e;rw[N.out,HC.out];exact hg
      · exact HG.out j R (by omega)
    · have I:=AF (tv s.data.toList k ad (by omega) (by rw[N.out,HC.out];omega))
      have o:=AF (je s.data.toList n G.out I.out)
      by_cases g1:(s[k].toNat:Int)<128
      · clear V hg
        go_wp2
        go_ret
        exact⟨dZ o.out.symm,AH _ _⟩
      · have g2:(191:Int)<(s[k].toNat:Int):=by omega
        clear V hg
        go_wp2
        go_ret
        exact⟨dZ o.out.symm,AH _ _⟩
  · obtain rfl:k=s.size:=by omega
    have I:=AF (rv s.data.toList (by rw[A];exact HG.out))
    clear HG
    have aa:n=1\/n=2\/n=3\/n=4:=by omega
    rcases aa with rfl | rfl | rfl | rfl
    · have o:=AF (tG s.data.toList G.out (by omega) I.out)
      go_wp2
      go_ret
      exact⟨dZ o.out.symm,AH _ _⟩
    · have o:=AF (fD s.data.toList 2 G.out (by omega) (by omega) I.out (by omega) 128 2047 rfl rfl)
      have O:=mm s.data.toList 2 2 (by omega)
      go_wp2_with fail
      refine(gU s W _).mono ?_
      rintro e w1 ⟨rfl,m⟩
      generalize (bnd s.data.toList 2 2).1=J at*
      generalize (bnd s.data.toList 2 2).2=M at*
      go_wp2
      go_ret
      exact⟨dZ (by rw[o.out,if_neg (by omega)]),(m.alloc m.size _).alloc (by simp;have:=m.size;omega) _⟩
    · have o:=AF (fD s.data.toList 3 G.out (by omega) (by omega) I.out (by omega) 2048 65535 rfl rfl)
      have O:=mm s.data.toList 3 3 (by omega)
      go_wp2_with fail
      refine(gT s W _).mono ?_
      rintro e w1 ⟨rfl,m⟩
      generalize (bnd s.data.toList 3 3).1=J at*
      generalize (bnd s.data.toList 3 3).2=M at*
      have E:∀o1 o2,Below w'.heap.size w' ((w1.alloc o1).alloc o2):=λo1 o2=>(m.alloc m.size _).alloc (by simp;have:=m.size;omega) _
      by_cases c1:55296<=max J 2048
      · by_cases c2:min M 65535<=57343
        · have r:Hid (bgs s.data.toList=false):=by unfold Hid;rw[o.out,if_pos ⟨by trivial,c1,c2⟩]
          go_wp2
          go_ret
          exact⟨dZ r.out.symm,E _ _⟩
        · have r:Hid (bgs s.data.toList=decide (max J 2048<=min M 65535)):=by unfold Hid;rw[o.out,if_neg (λh=>c2 h.2.2)]
          go_wp2
          go_ret
          exact⟨dZ r.out.symm,E _ _⟩
      · have r:Hid (bgs s.data.toList=decide (max J 2048<=min M 65535)):=by unfold Hid;rw[o.out,if_neg (λh=>c1 h.2.1)]
        go_wp2
        go_ret
        exact⟨dZ r.out.symm,E _ _⟩
    · have o:=AF (fD s.data.toList 4 G.out (by omega) (by omega) I.out (by omega) 65536 1114111 rfl rfl)
      have O:=mm s.data.toList 4 4 (by omega)
      go_wp2_with fail
      refine(jC s W _).mono ?_
      rintro e w1 ⟨rfl,m⟩
      generalize (bnd s.data.toList 4 4).1=J at*
      generalize (bnd s.data.toList 4 4).2=M at*
      go_wp2
      go_ret
      exact⟨dZ (by rw[o.out,if_neg (by omega)]),(m.alloc m.size _).alloc (by simp;have:=m.size;omega) _⟩
theorem lg1 (c:Nat)(h:c<128):lg c=1:=by unfold lg;rw[if_pos h]
theorem lg0 (c:Nat)(h:(128<=c/\c<194)\/245<=c):lg c=0:=by unfold lg;rw[if_neg (by omega),if_neg (by omega),if_neg (by omega),if_neg (by omega)]
theorem lg2 (c:Nat)(h:194<=c/\c<224):lg c=2:=by unfold lg;rw[if_neg (by omega),if_pos (by omega)]
theorem lg3 (c:Nat)(h:224<=c/\c<240):lg c=3:=by unfold lg;rw[if_neg (by omega),if_neg (by omega),if_pos (by omega)]
theorem lg4 (c:Nat)(h:240<=c/\c<245):lg c=4:=by unfold lg;rw[if_neg (by omega),if_neg (by omega),if_neg (by omega),if_pos (by omega)]
theorem cb2 (a b:UInt8):gn [a,b]=decide (b.toNat<128\/191<b.toNat):=by simp[gn,List.range,List.range.loop]
theorem cb3 (a b c:UInt8):gn [a,b,c]=(decide (b.toNat<128\/191<b.toNat)||decide (c.toNat<128\/191<c.toNat)):=by simp[gn,List.range,List.range.loop]
theorem cb4 (a b c d:UInt8):gn [a,b,c,d]=(decide (b.toNat<128\/191<b.toNat)||(decide (c.toNat<128\/191<c.toNat)||decide (d.toNat<128\/191<d.toNat))):=by simp[gn,List.range,List.range.loop]
theorem nS (c:Nat):128<=lof c/\hif c<=191:=by unfold lof hif;(repeat' split) <;> omega
theorem bg1 (a:UInt8):bgs [a]=decide (a.toNat<128\/(194<=a.toNat/\a.toNat<=244)):=by
 have r:=a.toNat_lt
 have o:128<=lof a.toNat/\hif a.toNat<=191:=nS a.toNat
 by_cases c0:(128<=a.toNat/\a.toNat<194)\/245<=a.toNat
 · rw[fC [a] 0 (lg0 a.toNat c0) (.inl rfl)];symm;rw[decide_eq_false_iff_not];omega
 by_cases c1:a.toNat<128
 · have m:gn [a]=false:=rfl
   rw[tG [a] (lg1 a.toNat c1) (by simp) m];symm;rw[decide_eq_true_iff];omega
 by_cases c2:194<=a.toNat/\a.toNat<224
 · have m:gn [a]=false:=rfl
   rw[fD [a] 2 (lg2 a.toNat c2) (by omega) (by simp) m (by omega) 128 2047 rfl rfl]
   have e:bnd [a] 2 2=((((a.toNat:Int) - 192)*64),(((a.toNat:Int) - 192)*64+63)):=by simp[bnd,bx,mk0]
   rw[e]
   dsimp only
   rw[if_neg (by omega)]
   rw[decide_eq_decide]
   (try unfold lof hif)
   (repeat' split) <;> omega
 by_cases c3:224<=a.toNat/\a.toNat<240
 · have m:gn [a]=false:=rfl
   rw[fD [a] 3 (lg3 a.toNat c3) (by omega) (by simp) m (by omega) 2048 65535 rfl rfl]
   have e:bnd [a] 3 3=(((((a.toNat:Int) - 224)*64)*64),((((a.toNat:Int) - 224)*64+63)*64+63)):=by simp[bnd,bx,mk0]
   rw[e]
   dsimp only
   by_cases cs:(3:Nat)=3/\55296<=max (((((a.toNat:Int) - 224)*64)*64)) 2048/\min (((((a.toNat:Int) - 224)*64+63)*64+63)) 65535<=57343
   · rw[if_pos cs];symm;rw[decide_eq_false_iff_not];(try unfold lof hif);(repeat' split) <;> omega
   rw[if_neg cs]
   rw[decide_eq_decide]
   (try unfold lof hif)
   (repeat' split) <;> omega
 by_cases c4:240<=a.toNat/\a.toNat<245
 · have m:gn [a]=false:=rfl
   rw[fD [a] 4 (lg4 a.toNat c4) (by omega) (by simp) m (by omega) 65536 1114111 rfl rfl]
   have e:bnd [a] 4 4=((((((a.toNat:Int) - 240)*64)*64)*64),(((((a.toNat:Int) - 240)*64+63)*64+63)*64+63)):=by simp[bnd,bx,mk0]
   rw[e]
   dsimp only
   rw[if_neg (by omega)]
   rw[decide_eq_decide]
   (try unfold lof hif)
   (repeat' split) <;> omega
 exfalso;omega
theorem bg2 (a b:UInt8):bgs [a,b]=decide (194<=a.toNat/\a.toNat<=244/\lof a.toNat<=b.toNat/\b.toNat<=hif a.toNat):=by
 have E:=a.toNat_lt
 have A:=b.toNat_lt
 have r:128<=lof a.toNat/\hif a.toNat<=191:=nS a.toNat
 by_cases c0:(128<=a.toNat/\a.toNat<194)\/245<=a.toNat
 · rw[fC [a,b] 0 (lg0 a.toNat c0) (.inl rfl)];symm;rw[decide_eq_false_iff_not];omega
 by_cases c1:a.toNat<128
 · rw[fC [a,b] 1 (lg1 a.toNat c1) (.inr (by simp))];symm;rw[decide_eq_false_iff_not];omega
 by_cases c2:194<=a.toNat/\a.toNat<224
 · by_cases o:(b.toNat<128\/191<b.toNat)
   · rw[je [a,b] 2 (lg2 a.toNat c2) (by rw[cb2];simp;omega)];symm;rw[decide_eq_false_iff_not];omega
   have m:gn [a,b]=false:=by rw[cb2];simp;omega
   rw[fD [a,b] 2 (lg2 a.toNat c2) (by omega) (by simp) m (by omega) 128 2047 rfl rfl]
   have e:bnd [a,b] 2 2=((((a.toNat:Int) - 192)*64+((b.toNat:Int) - 128)),(((a.toNat:Int) - 192)*64+((b.toNat:Int) - 128))):=by simp[bnd,bx,mk0]
   rw[e]
   dsimp only
   rw[if_neg (by omega)]
   rw[decide_eq_decide]
   (try unfold lof hif)
   (repeat' split) <;> omega
 by_cases c3:224<=a.toNat/\a.toNat<240
 · by_cases o:(b.toNat<128\/191<b.toNat)
   · rw[je [a,b] 3 (lg3 a.toNat c3) (by rw[cb2];simp;omega)];symm;rw[decide_eq_false_iff_not];omega
   have m:gn [a,b]=false:=by rw[cb2];simp;omega
   rw[fD [a,b] 3 (lg3 a.toNat c3) (by omega) (by simp) m (by omega) 2048 65535 rfl rfl]
   have e:bnd [a,b] 3 3=(((((a.toNat:Int) - 224)*64+((b.toNat:Int) - 128))*64),((((a.toNat:Int) - 224)*64+((b.toNat:Int) - 128))*64+63)):=by simp[bnd,bx,mk0]
   rw[e]
   dsimp only
   by_cases cs:(3:Nat)=3/\55296<=max (((((a.toNat:Int) - 224)*64+((b.toNat:Int) - 128))*64)) 2048/\min (((((a.toNat:Int) - 224)*64+((b.toNat:Int) - 128))*64+63)) 65535<=57343
   · rw[if_pos cs];symm;rw[decide_eq_false_iff_not];(try unfold lof hif);(repeat' split) <;> omega
   rw[if_neg cs]
   rw[decide_eq_decide]
   (try unfold lof hif)
   (repeat' split) <;> omega
 by_cases c4:240<=a.toNat/\a.toNat<245
 · by_cases o:(b.toNat<128\/191<b.toNat)
   · rw[je [a,b] 4 (lg4 a.toNat c4) (by rw[cb2];simp;omega)];symm;rw[decide_eq_false_iff_not];omega
   have m:gn [a,b]=false:=by rw[cb2];simp;omega
   rw[fD [a,b] 4 (lg4 a.toNat c4) (by omega) (by simp) m (by omega) 65536 1114111 rfl rfl]
   have e:bnd [a,b] 4 4=((((((a.toNat:Int) - 240)*64+((b.toNat:Int) - 128))*64)*64),(((((a.toNat:Int) - 240)*64+((b.toNat:Int) - 128))*64+63)*64+63)):=by simp[bnd,bx,mk0]
   rw[e]
   dsimp only
   rw[if_neg (by omega)]
   rw[decide_eq_decide]
   (try unfold lof hif)
   (repeat' split) <;> omega
 exfalso;omega
theorem bg3 (a b c:UInt8):bgs [a,b,c]=decide (224<=a.toNat/\a.toNat<=244/\lof a.toNat<=b.toNat/\b.toNat<=hif a.toNat/\128<=c.toNat/\c.toNat<=191):=by
 have G:=a.toNat_lt
 have E:=b.toNat_lt
 have A:=c.toNat_lt
 have o:128<=lof a.toNat/\hif a.toNat<=191:=nS a.toNat
 by_cases c0:(128<=a.toNat/\a.toNat<194)\/245<=a.toNat
 · rw[fC [a,b,c] 0 (lg0 a.toNat c0) (.inl rfl)];symm;rw[decide_eq_false_iff_not];omega
 by_cases c1:a.toNat<128
 · rw[fC [a,b,c] 1 (lg1 a.toNat c1) (.inr (by simp))];symm;rw[decide_eq_false_iff_not];omega
 by_cases c2:194<=a.toNat/\a.toNat<224
 · rw[fC [a,b,c] 2 (lg2 a.toNat c2) (.inr (by simp))];symm;rw[decide_eq_false_iff_not];omega
 by_cases c3:224<=a.toNat/\a.toNat<240
 · by_cases r:(b.toNat<128\/191<b.toNat)\/(c.toNat<128\/191<c.toNat)
   · rw[je [a,b,c] 3 (lg3 a.toNat c3) (by rw[cb3];simp;omega)];symm;rw[decide_eq_false_iff_not];omega
   have m:gn [a,b,c]=false:=by rw[cb3];simp;omega
   rw[fD [a,b,c] 3 (lg3 a.toNat c3) (by omega) (by simp) m (by omega) 2048 65535 rfl rfl]
   have e:bnd [a,b,c] 3 3=(((((a.toNat:Int) - 224)*64+((b.toNat:Int) - 128))*64+((c.toNat:Int) - 128)),((((a.toNat:Int) - 224)*64+((b.toNat:Int) - 128))*64+((c.toNat:Int) - 128))):=by simp[bnd,bx,mk0]
   rw[e]
   dsimp only
   by_cases cs:(3:Nat)=3/\55296<=max (((((a.toNat:Int) - 224)*64+((b.toNat:Int) - 128))*64+((c.toNat:Int) - 128))) 2048/\min (((((a.toNat:Int) - 224)*64+((b.toNat:Int) - 128))*64+((c.toNat:Int) - 128))) 65535<=57343
   · rw[if_pos cs];symm;rw[decide_eq_false_iff_not];(try unfold lof hif);(repeat' split) <;> omega
   rw[if_neg cs]
   rw[decide_eq_decide]
   (try unfold lof hif)
   (repeat' split) <;> omega
 by_cases c4:240<=a.toNat/\a.toNat<245
 · by_cases r:(b.toNat<128\/191<b.toNat)\/(c.toNat<128\/191<c.toNat)
   · rw[je [a,b,c] 4 (lg4 a.toNat c4) (by rw[cb3];simp;omega)];symm;rw[decide_eq_false_iff_not];omega
   have m:gn [a,b,c]=false:=by rw[cb3];simp;omega
   rw[fD [a,b,c] 4 (lg4 a.toNat c4) (by omega) (by simp) m (by omega) 65536 1114111 rfl rfl]
   have e:bnd [a,b,c] 4 4=((((((a.toNat:Int) - 240)*64+((b.toNat:Int) - 128))*64+((c.toNat:Int) - 128))*64),(((((a.toNat:Int) - 240)*64+((b.toNat:Int) - 128))*64+((c.toNat:Int) - 128))*64+63)):=by simp[bnd,bx,mk0]
   rw[e]
   dsimp only
   rw[if_neg (by omega)]
   rw[decide_eq_decide]
   (try unfold lof hif)
   (repeat' split) <;> omega
 exfalso;omega
theorem bg4 (a b c d:UInt8):bgs [a,b,c,d]=decide (240<=a.toNat/\a.toNat<=244/\lof a.toNat<=b.toNat/\b.toNat<=hif a.toNat/\128<=c.toNat/\c.toNat<=191/\128<=d.toNat/\d.toNat<=191):=by
 have G:=a.toNat_lt
 have E:=b.toNat_lt
 have A:=c.toNat_lt
 have r:=d.toNat_lt
 have o:128<=lof a.toNat/\hif a.toNat<=191:=nS a.toNat
 by_cases c0:(128<=a.toNat/\a.toNat<194)\/245<=a.toNat
 · rw[fC [a,b,c,d] 0 (lg0 a.toNat c0) (.inl rfl)];symm;rw[decide_eq_false_iff_not];omega
 by_cases c1:a.toNat<128
 · rw[fC [a,b,c,d] 1 (lg1 a.toNat c1) (.inr (by simp))];symm;rw[decide_eq_false_iff_not];omega
 by_cases c2:194<=a.toNat/\a.toNat<224
 · rw[fC [a,b,c,d] 2 (lg2 a.toNat c2) (.inr (by simp))];symm;rw[decide_eq_false_iff_not];omega
 by_cases c3:224<=a.toNat/\a.toNat<240
 · rw[fC [a,b,c,d] 3 (lg3 a.toNat c3) (.inr (by simp))];symm;rw[decide_eq_false_iff_not];omega
 by_cases c4:240<=a.toNat/\a.toNat<245
 · by_cases I:(b.toNat<128\/191<b.toNat)\/(c.toNat<128\/191<c.toNat)\/(d.toNat<128\/191<d.toNat)
   · rw[je [a,b,c,d] 4 (lg4 a.toNat c4) (by rw[cb4];simp;omega)];symm;rw[decide_eq_false_iff_not];omega
   have m:gn [a,b,c,d]=false:=by rw[cb4];simp;omega
   rw[fD [a,b,c,d] 4 (lg4 a.toNat c4) (by omega) (by simp) m (by omega) 65536 1114111 rfl rfl]
   have e:bnd [a,b,c,d] 4 4=((((((a.toNat:Int) - 240)*64+((b.toNat:Int) - 128))*64+((c.toNat:Int) - 128))*64+((d.toNat:Int) - 128)),(((((a.toNat:Int) - 240)*64+((b.toNat:Int) - 128))*64+((c.toNat:Int) - 128))*64+((d.toNat:Int) - 128))):=by simp[bnd,bx,mk0]
   rw[e]
   dsimp only
   rw[if_neg (by omega)]
   rw[decide_eq_decide]
   (try unfold lof hif)
   (repeat' split) <;> omega
 exfalso;omega
def most (l:List UInt8):Nat:=
 if 1<=l.length/\bgs (l.take 1)=true then
  (if 2<=l.length/\bgs (l.take 2)=true then
    (if 3<=l.length/\bgs (l.take 3)=true then
      (if 4<=l.length/\bgs (l.take 4)=true then 4 else 3)else 2)else 1)else 0
def kO (l:List UInt8):Nat×Int×Bool:=
 if most l=0 then(1,65533,false)else if most l<lg (l.getD 0 0).toNat then(most l,65533,false)
 else(most l,if most l=1 then((l.getD 0 0).toNat:Int)else(bnd (l.take (most l)) (most l) (most l)).1,true)
theorem zQ (a:UInt8):most [a]=if a.toNat<128\/(194<=a.toNat/\a.toNat<=244)then 1 else 0:=by
 unfold most
 rw[show([a]:List UInt8).take 1=[a]from rfl,bg1]
 simp
theorem zP (a b:UInt8):most [a,b]=if a.toNat<128\/(194<=a.toNat/\a.toNat<=244)then(if 194<=a.toNat/\a.toNat<=244/\lof a.toNat<=b.toNat/\b.toNat<=hif a.toNat then 2 else 1)else 0:=by
 unfold most
 rw[show([a,b]:List UInt8).take 1=[a]from rfl,show([a,b]:List UInt8).take 2=[a,b]from rfl,bg1,bg2]
 simp
theorem zO (a b c:UInt8):most [a,b,c]=if a.toNat<128\/(194<=a.toNat/\a.toNat<=244)then(if 194<=a.toNat/\a.toNat<=244/\lof a.toNat<=b.toNat/\b.toNat<=hif a.toNat then(if 224<=a.toNat/\a.toNat<=244/\lof a.toNat<=b.toNat/\b.toNat<=hif a.toNat/\128<=c.toNat/\c.toNat<=191 then 3 else 2)else 1)else 0:=by
 unfold most
 rw[show([a,b,c]:List UInt8).take 1=[a]from rfl,show([a,b,c]:List UInt8).take 2=[a,b]from rfl,show([a,b,c]:List UInt8).take 3=[a,b,c]from rfl,bg1,bg2,bg3]
 simp
theorem zN (a b c d:UInt8)(t:List UInt8):most (a::b::c::d::t)=if a.toNat<128\/(194<=a.toNat/\a.toNat<=244)then(if 194<=a.toNat/\a.toNat<=244/\lof a.toNat<=b.toNat/\b.toNat<=hif a.toNat then(if 224<=a.toNat/\a.toNat<=244/\lof a.toNat<=b.toNat/\b.toNat<=hif a.toNat/\128<=c.toNat/\c.toNat<=191 then(if 240<=a.toNat/\a.toNat<=244/\lof a.toNat<=b.toNat/\b.toNat<=hif a.toNat/\128<=c.toNat/\c.toNat<=191/\128<=d.toNat/\d.toNat<=191 then 4 else 3)else 2)else 1)else 0:=by
 unfold most
 rw[show(a::b::c::d::t).take 1=[a]from rfl,show(a::b::c::d::t).take 2=[a,b]from rfl,show(a::b::c::d::t).take 3=[a,b,c]from rfl,show(a::b::c::d::t).take 4=[a,b,c,d]from rfl,bg1,bg2,bg3,bg4]
 simp
def jQ (n A B C D:Nat):Nat:=
 if A<128\/(194<=A/\A<=244)then
  (if 2<=n/\194<=A/\A<=244/\lof A<=B/\B<=hif A then
    (if 3<=n/\224<=A/\A<=244/\lof A<=B/\B<=hif A/\128<=C/\C<=191 then
      (if 4<=n/\240<=A/\A<=244/\lof A<=B/\B<=hif A/\128<=C/\C<=191/\128<=D/\D<=191 then 4 else 3)else 2)else 1)else 0
theorem yI (l:List UInt8)(h:l≠[]):most l=jQ l.length (l.getD 0 0).toNat (l.getD 1 0).toNat (l.getD 2 0).toNat (l.getD 3 0).toNat:=by
 unfold jQ
 match l,h with
 | [a],_=>rw[zQ];simp
 | [a,b],_=>rw[zP];simp
 | [a,b,c],_=>rw[zO];simp
 | a::b::c::d::t,_=>rw[zN];simp
theorem Av (a b:UInt8):(bnd [a,b] 2 2).1=((a.toNat:Int) - 192)*64+((b.toNat:Int) - 128):=by simp[bnd,bx,mk0]
theorem Au (a b c:UInt8):(bnd [a,b,c] 3 3).1=(((a.toNat:Int) - 224)*64+((b.toNat:Int) - 128))*64+((c.toNat:Int) - 128):=by simp[bnd,bx,mk0]
theorem At (a b c d:UInt8):(bnd [a,b,c,d] 4 4).1=((((a.toNat:Int) - 240)*64+((b.toNat:Int) - 128))*64+((c.toNat:Int) - 128))*64+((d.toNat:Int) - 128):=by simp[bnd,bx,mk0]
theorem wP (l:List UInt8)(h:l≠[])(m:Nat)(A:most l=m)(r:pc l=(if m=0 then 1 else m,false))(E:m=0\/m<lg (l.getD 0 0).toNat):kO l=((pc l).1,rn l,(pc l).2):=by
 rw[(wT l h (by rw[r])).1,r]
 unfold kO
 rw[A]
 by_cases o:m=0
 · rw[if_pos o,if_pos o]
 · rw[if_neg o,if_neg o,if_pos (by omega)]
theorem uH (l:List UInt8)(h:l≠[])(m:Nat)(I:m≠0)(E:most l=m)(o:pc l=(m,true))(G:lg (l.getD 0 0).toNat=m)
 (r:(if m=1 then((l.getD 0 0).toNat:Int)else(bnd (l.take m) m m).1)=((decodeN l.length (l.getD 0 0).toNat (l.getD 1 0).toNat (l.getD 2 0).toNat (l.getD 3 0).toNat).1:Int)):kO l=((pc l).1,rn l,(pc l).2):=by
 have A:rn l=((decodeN l.length (l.getD 0 0).toNat (l.getD 1 0).toNat (l.getD 2 0).toNat (l.getD 3 0).toNat).1:Int):=by
  unfold rn;rw[o,if_pos rfl,mh l h,decodeL_N]
 rw[A,o,←r]
 unfold kO
 rw[E,G,if_neg I,if_neg (by omega)]
theorem sb (l:List UInt8)(h:l≠[]):kO l=((pc l).1,rn l,(pc l).2):=by
 have o:=yI l h
 have m:=zw l h
 have V:1<=l.length:=List.length_pos_iff.2 h
 have U:=(l.getD 0 0).toNat_lt
 have R:=(l.getD 1 0).toNat_lt
 have O:=(l.getD 2 0).toNat_lt
 have N:=(l.getD 3 0).toNat_lt
 have t2:2<=l.length->(bnd (l.take 2) 2 2).1=(((l.getD 0 0).toNat:Int) - 192)*64+(((l.getD 1 0).toNat:Int) - 128):=λh=>by rw[takeB l h,Av]
 have t3:3<=l.length->(bnd (l.take 3) 3 3).1=((((l.getD 0 0).toNat:Int) - 224)*64+(((l.getD 1 0).toNat:Int) - 128))*64+(((l.getD 2 0).toNat:Int) - 128):=λh=>by rw[takeC l h,Au]
 have t4:4<=l.length->(bnd (l.take 4) 4 4).1=(((((l.getD 0 0).toNat:Int) - 240)*64+(((l.getD 1 0).toNat:Int) - 128))*64+(((l.getD 2 0).toNat:Int) - 128))*64+(((l.getD 3 0).toNat:Int) - 128):=λh=>by rw[takeD l h,At]
 have r:=wP l h
 have G:=uH l h
 generalize (l.getD 0 0).toNat=A at*
 generalize (l.getD 1 0).toNat=B at*
 generalize (l.getD 2 0).toNat=C at*
 generalize (l.getD 3 0).toNat=D at*
 generalize J:l.length=n at*
 have M:128<=lof A/\hif A<=191:=nS A
 have K:A<224->lof A=128/\hif A=191:=λh=>by unfold lof hif;(repeat' split) <;> omega
 by_cases c0:(128<=A/\A<194)\/245<=A
 ·
  refine r 0 ?_ ?_ ?_
  · rw[o];unfold jQ;(repeat' split) <;> omega
  · rw[m];unfold pcN;(repeat' split) <;> first | rfl | (exfalso;omega)
  · exact .inl rfl
 by_cases c1:A<128
 ·
  refine G 1 (by omega) ?_ ?_ (lg1 A c1) ?_
  · rw[o];unfold jQ;(repeat' split) <;> omega
  · rw[m];unfold pcN;(repeat' split) <;> first | rfl | (exfalso;omega)
  · rw[if_pos rfl];unfold decodeN;rw[if_pos (by omega)]
 by_cases E:lof A<=B/\B<=hif A/\2<=n
 rotate_left
 ·
  by_cases c2:A<224
  ·
   refine r 1 ?_ ?_ ?_
   · rw[o];unfold jQ;(repeat' split) <;> omega
   · rw[m];unfold pcN;(repeat' split) <;> first | rfl | (exfalso;omega)
   · rw[lg2 A (by omega)];omega
  by_cases c3:A<240
  ·
   refine r 1 ?_ ?_ ?_
   · rw[o];unfold jQ;(repeat' split) <;> omega
   · rw[m];unfold pcN;(repeat' split) <;> first | rfl | (exfalso;omega)
   · rw[lg3 A (by omega)];omega
  ·
   refine r 1 ?_ ?_ ?_
   · rw[o];unfold jQ;(repeat' split) <;> omega
   · rw[m];unfold pcN;(repeat' split) <;> first | rfl | (exfalso;omega)
   · rw[lg4 A (by omega)];omega
 by_cases c2:A<224
 ·
  refine G 2 (by omega) ?_ ?_ (lg2 A (by omega)) ?_
  · rw[o];unfold jQ;(repeat' split) <;> omega
  · rw[m];unfold pcN;(repeat' split) <;> first | rfl | (exfalso;omega)
  · rw[if_neg (by omega),t2 (by omega)];unfold decodeN
    have I:B / 64=2:=by omega
    rw[if_neg (by omega),if_pos (by omega),if_pos (by omega)]
    dsimp only;omega
 by_cases g3:128<=C/\C<=191/\3<=n
 rotate_left
 ·
  by_cases c3:A<240
  ·
   refine r 2 ?_ ?_ ?_
   · rw[o];unfold jQ;(repeat' split) <;> omega
   · rw[m];unfold pcN;(repeat' split) <;> first | rfl | (exfalso;omega)
   · rw[lg3 A (by omega)];omega
  ·
   refine r 2 ?_ ?_ ?_
   · rw[o];unfold jQ;(repeat' split) <;> omega
   · rw[m];unfold pcN;(repeat' split) <;> first | rfl | (exfalso;omega)
   · rw[lg4 A (by omega)];omega
 by_cases c3:A<240
 ·
  refine G 3 (by omega) ?_ ?_ (lg3 A (by omega)) ?_
  · rw[o];unfold jQ;(repeat' split) <;> omega
  · rw[m];unfold pcN;(repeat' split) <;> first | rfl | (exfalso;omega)
  · rw[if_neg (by omega),t3 (by omega)];unfold decodeN
    have I:B / 64=2:=by omega
    unfold lof at E;unfold hif at E
    rw[if_neg (by omega),if_neg (by omega),if_pos (by omega),if_pos (by(repeat' split at E) <;> omega)]
    dsimp only;omega
 by_cases g4:128<=D/\D<=191/\4<=n
 rotate_left
 ·
  refine r 3 ?_ ?_ ?_
  · rw[o];unfold jQ;(repeat' split) <;> omega
  · rw[m];unfold pcN;(repeat' split) <;> first | rfl | (exfalso;omega)
  · rw[lg4 A (by omega)];omega
 ·
  refine G 4 (by omega) ?_ ?_ (lg4 A (by omega)) ?_
  · rw[o];unfold jQ;(repeat' split) <;> omega
  · rw[m];unfold pcN;(repeat' split) <;> first | rfl | (exfalso;omega)
  · rw[if_neg (by omega),t4 (by omega)];unfold decodeN
    have I:B / 64=2:=by omega
    unfold lof at E;unfold hif at E
    rw[if_neg (by omega),if_neg (by omega),if_neg (by omega),if_pos (by omega),if_pos (by(repeat' split at E) <;> omega)]
    dsimp only;omega
theorem pu (l:List UInt8)(m:Nat)(h:∀j,1<=j->j<=m->bgs (l.take j)=true)(r:m<=l.length)(A:m<=4)(o:m=4\/l.length<m+1\/bgs (l.take (m+1))=false):most l=m:=by
 unfold most
 match m,A,h,r,o with
 | 0,_,h,r,o=>
   rw[if_neg]
   rintro⟨a,b⟩
   rcases o with h | h | h
   · omega
   · omega
   · rw[h]at b;cases b
 | 1,_,h,r,o=>
   rw[if_pos ⟨r,h 1 (by omega) (by omega)⟩,if_neg]
   rintro⟨a,b⟩
   rcases o with h | h | h
   · omega
   · omega
   · rw[h]at b;cases b
 | 2,_,h,r,o=>
   rw[if_pos ⟨by omega,h 1 (by omega) (by omega)⟩,if_pos ⟨r,h 2 (by omega) (by omega)⟩,if_neg]
   rintro⟨a,b⟩
   rcases o with h | h | h
   · omega
   · omega
   · rw[h]at b;cases b
 | 3,_,h,r,o=>
   rw[if_pos ⟨by omega,h 1 (by omega) (by omega)⟩,if_pos ⟨by omega,h 2 (by omega) (by omega)⟩,if_pos ⟨r,h 3 (by omega) (by omega)⟩,if_neg]
   rintro⟨a,b⟩
   rcases o with h | h | h
   · omega
   · omega
   · rw[h]at b;cases b
 | 4,_,h,r,o=>
   rw[if_pos ⟨by omega,h 1 (by omega) (by omega)⟩,if_pos ⟨by omega,h 2 (by omega) (by omega)⟩,if_pos ⟨by omega,h 3 (by omega) (by omega)⟩,if_pos ⟨r,h 4 (by omega) (by omega)⟩]
theorem nH (s:ByteArray)(at_:Nat)(au:at_<s.size)(hs:s.size<=1099511627776)(w:World):
 Calls Tryz.prog 153 #[.string s,.int .i64 at_] w λe w'=>
  e=.returned (.tuple #[.int .i64 (pc (s.data.toList.drop at_)).1,.int .i32 (rn (s.data.toList.drop at_)),.bool (pc (s.data.toList.drop at_)).2])/\Below w.heap.size w w':=by
 obtain⟨o,hL⟩:∃o,s.data.toList.drop at_=o:=⟨_,rfl⟩
 have aq:s.data.toList.length=s.size:=by simp
 have aj:o.length=s.size - at_:=by rw[<-hL];simp
 have ac:o≠[]:=by intro e;rw[e]at aj;simp at aj;omega
 have M:Hid (∀(m:Nat) (v:Int) (ok:Bool),kO o=(m,v,ok)->Ending.returned (.tuple #[.int .i64 (m:Int),.int .i32 v,.bool ok])=.returned (.tuple #[.int .i64 (pc o).1,.int .i32 (rn o),.bool (pc o).2])):=by
  intro m v ok h
  rw[sb o ac]at h
  cases h;rfl
 have K:Hid (∀(m:Nat) (v:Int) (ok:Bool),kO o=(m,v,ok)->0<=v/\v<=1114111):=by
  intro m v ok h
  rw[sb o ac]at h
  have:=zG o ac
  cases h
  exact⟨this.1,this.2.1⟩
 have ak:o.getD 0 0=s[at_]:=by rw[<-hL,←gk s at_ au];simp[List.getD]
 obtain⟨A,ad⟩:∃A,lg (o.getD 0 0).toNat=A:=⟨_,rfl⟩
 have av:A<=4:=by rw[<-ad];exact yO _
 have aa:=AF ad
 have HC:Hid ((o.getD 0 0).toNat=s[at_].toNat):=by unfold Hid;rw[ak]
 have HL:Hid (∀w,Calls Tryz.prog 160 #[.int .u8 (s[at_].toNat:Nat)] w λe w'=>e=.returned (.int .i64 A)/\w'=w):=by
  intro w
  have h1:=l7 s[at_].toNat s[at_].toNat_lt w
  have e:lg s[at_].toNat=A:=by rw[<-HC.out];exact ad
  rw[e]at h1
  exact h1
 rw[hL]
 have Y:=AF hL
 clear ad ak hL ac aq
 go_enter Tryz.func153,Tryz.ntmps153
 go_wp2
 go_loopw [7,8] (λv7 v8 wr=>∃m:Nat,m<=4/\m<=o.length/\v7=.int .i64 m/\v8=.int .i64 ((m:Int)+1)/\Below w.heap.size w wr/\Hid (∀j,1<=j->j<=m->bgs (o.take j)=true)) (λv7 _ _=>5 - (intOf v7).toNat)
 case atStart=>exact⟨0,by omega,by omega,rfl,rfl,AH _ _,λj h1 h2=>by omega⟩
 case round=>
  obtain⟨m,af,Z,rfl,rfl,N,HU⟩:=hrel
  by_cases hm:m=4
  · have HM:=AF (pu o m HU.out Z af (.inl hm))
    have ai:¬((m:Int)+1<=4):=by omega
    clear HU
    have r:m≠0:=by omega
    have V:((m:Int)==0)=false:=beq_eq_false_iff_ne.2 (by omega)
    have E:¬(m<A):=by omega
    have U:¬((m:Int)<A):=by omega
    have G:Hid (kO o=(m,if m=1 then((o.getD 0 0).toNat:Int)else(bnd (o.take m) m m).1,true)):=by unfold Hid kO;rw[HM.out,if_neg r,aa.out,if_neg E]
    clear E
    obtain rfl:m=4:=by omega
    have W:=AF (K.out _ _ _ G.out)
    have HX:Hid (o.take 4=(s.extract at_ (at_+4)).data.toList):=by unfold Hid;rw[<-Y.out,Lib.extract_data,show at_+4 - at_=4 by omega]
    rw[if_neg (by omega),HX.out]at G W
    have ab:=W.out
    go_wp2_with fail
    refine(HL.out _).mono ?_
    rintro e w' ⟨rfl,rfl⟩
    go_wp2_with fail
    refine(jC (s.extract at_ (at_+4)) (by simp;omega) _).mono ?_
    rintro e w1 ⟨rfl,I⟩
    have R:=N.trans (I.mono N.size)
    generalize (bnd (s.extract at_ (at_+4)).data.toList 4 4).1=lo at*
    generalize (bnd (s.extract at_ (at_+4)).data.toList 4 4).2=hi at*
    go_wp2
    go_ret3
    exact⟨M.out _ _ _ G.out,R⟩
  by_cases E:s.size<at_+m+1
  · have HM:=AF (pu o m HU.out Z af (.inr (.inl (by omega))))
    have ai:((m:Int)+1<=4):=by omega
    have ar:¬((at_:Int)+((m:Int)+1)<=s.size):=by omega
    clear HU E
    by_cases r:m=0
    · have V:((m:Int)==0)=true:=by rw[r];rfl
      have G:Hid (kO o=(1,65533,false)):=by unfold Hid kO;rw[HM.out,if_pos r]
      clear r
      go_wp2
      go_ret3
      exact⟨M.out _ _ _ G.out,N⟩
    have V:((m:Int)==0)=false:=beq_eq_false_iff_ne.2 (by omega)
    by_cases E:m<A
    · have U:(m:Int)<A:=by omega
      have G:Hid (kO o=(m,65533,false)):=by unfold Hid kO;rw[HM.out,if_neg r,aa.out,if_pos E]
      clear r
      go_wp2_with fail
      refine(HL.out _).mono ?_
      rintro e w' ⟨rfl,rfl⟩
      go_wp2
      go_ret3
      exact⟨M.out _ _ _ G.out,N⟩
    have U:¬((m:Int)<A):=by omega
    have G:Hid (kO o=(m,if m=1 then((o.getD 0 0).toNat:Int)else(bnd (o.take m) m m).1,true)):=by unfold Hid kO;rw[HM.out,if_neg r,aa.out,if_neg E]
    clear E
    have O:m=1\/m=2\/m=3:=by omega
    rcases O with J | J | J
    · have al:((m:Int)==1)=true:=by rw[J];rfl
      have ao:s[at_].toNat<256:=s[at_].toNat_lt
      have ah:Hid (kO o=(m,(s[at_].toNat:Int),true)):=by unfold Hid;rw[G.out,if_pos J,HC.out]
      clear r J
      go_wp2_with fail
      refine(HL.out _).mono ?_
      rintro e w' ⟨rfl,rfl⟩
      go_wp2
      go_ret3
      exact⟨M.out _ _ _ ah.out,N⟩
    · obtain rfl:m=2:=by omega
      have W:=AF (K.out _ _ _ G.out)
      have HX:Hid (o.take 2=(s.extract at_ (at_+2)).data.toList):=by unfold Hid;rw[<-Y.out,Lib.extract_data,show at_+2 - at_=2 by omega]
      rw[if_neg (by omega),HX.out]at G W
      have ab:=W.out
      go_wp2_with fail
      refine(HL.out _).mono ?_
      rintro e w' ⟨rfl,rfl⟩
      go_wp2_with fail
      refine(gU (s.extract at_ (at_+2)) (by simp;omega) _).mono ?_
      rintro e w1 ⟨rfl,I⟩
      have R:=N.trans (I.mono N.size)
      generalize (bnd (s.extract at_ (at_+2)).data.toList 2 2).1=lo at*
      generalize (bnd (s.extract at_ (at_+2)).data.toList 2 2).2=hi at*
      go_wp2
      go_ret3
      exact⟨M.out _ _ _ G.out,R⟩
    · obtain rfl:m=3:=by omega
      have W:=AF (K.out _ _ _ G.out)
      have HX:Hid (o.take 3=(s.extract at_ (at_+3)).data.toList):=by unfold Hid;rw[<-Y.out,Lib.extract_data,show at_+3 - at_=3 by omega]
      rw[if_neg (by omega),HX.out]at G W
      have ab:=W.out
      go_wp2_with fail
      refine(HL.out _).mono ?_
      rintro e w' ⟨rfl,rfl⟩
      go_wp2_with fail
      refine(gT (s.extract at_ (at_+3)) (by simp;omega) _).mono ?_
      rintro e w1 ⟨rfl,I⟩
      have R:=N.trans (I.mono N.size)
      generalize (bnd (s.extract at_ (at_+3)).data.toList 3 3).1=lo at*
      generalize (bnd (s.extract at_ (at_+3)).data.toList 3 3).2=hi at*
      go_wp2
      go_ret3
      exact⟨M.out _ _ _ G.out,R⟩
  have ai:((m:Int)+1<=4):=by omega
  have ar:((at_:Int)+((m:Int)+1)<=s.size):=by omega
  have ap:((at_:Int)+((m:Int)+1)).toNat=at_+(m+1):=by omega
  have am:Hid (o.take (m+1)=(s.extract at_ (at_+(m+1))).data.toList):=by unfold Hid;rw[<-Y.out,Lib.extract_data,show at_+(m+1) - at_=m+1 by omega]
  have an:Hid (∀w,Calls Tryz.prog 159 #[.string (s.extract at_ (at_+(m+1)))] w λe w'=>e=.returned (.bool (bgs (o.take (m+1))))/\Below w.heap.size w w'):=by
   intro w
   have:=oB (s.extract at_ (at_+(m+1))) (by simp;omega) (by simp;omega) w
   rwa[<-am.out]at this
  go_wp2_with fail
  refine(an.out _).mono ?_
  rintro e w1 ⟨rfl,I⟩
  have ag:=N.trans (I.mono N.size)
  clear N I an ap am
  cases ae:bgs (o.take (m+1))with
  | true=>
    have HB:=AF ae
    clear ae
    go_wp2
    refine⟨⟨m+1,by omega,by omega,by go_num,by go_num,ag,λj h1 h2=> ?_⟩,by simp[intOf];omega⟩
    by_cases e:j=m+1
    · rw[e];exact HB.out
    · exact HU.out j h1 (by omega)
  | false=>
    have HM:=AF (pu o m HU.out Z af (.inr (.inr ae)))
    have N:=ag
    clear HU ae ag E
    by_cases r:m=0
    · have V:((m:Int)==0)=true:=by rw[r];rfl
      have G:Hid (kO o=(1,65533,false)):=by unfold Hid kO;rw[HM.out,if_pos r]
      clear r
      go_wp2
      go_ret3
      exact⟨M.out _ _ _ G.out,N⟩
    have V:((m:Int)==0)=false:=beq_eq_false_iff_ne.2 (by omega)
    by_cases E:m<A
    · have U:(m:Int)<A:=by omega
      have G:Hid (kO o=(m,65533,false)):=by unfold Hid kO;rw[HM.out,if_neg r,aa.out,if_pos E]
      clear r
      go_wp2_with fail
      refine(HL.out _).mono ?_
      rintro e w' ⟨rfl,rfl⟩
      go_wp2
      go_ret3
      exact⟨M.out _ _ _ G.out,N⟩
    have U:¬((m:Int)<A):=by omega
    have G:Hid (kO o=(m,if m=1 then((o.getD 0 0).toNat:Int)else(bnd (o.take m) m m).1,true)):=by unfold Hid kO;rw[HM.out,if_neg r,aa.out,if_neg E]
    clear E
    have O:m=1\/m=2\/m=3:=by omega
    rcases O with J | J | J
    · have al:((m:Int)==1)=true:=by rw[J];rfl
      have ao:s[at_].toNat<256:=s[at_].toNat_lt
      have ah:Hid (kO o=(m,(s[at_].toNat:Int),true)):=by unfold Hid;rw[G.out,if_pos J,HC.out]
      clear r J
      go_wp2_with fail
      refine(HL.out _).mono ?_
      rintro e w' ⟨rfl,rfl⟩
      go_wp2
      go_ret3
      exact⟨M.out _ _ _ ah.out,N⟩
    · obtain rfl:m=2:=by omega
      have W:=AF (K.out _ _ _ G.out)
      have HX:Hid (o.take 2=(s.extract at_ (at_+2)).data.toList):=by unfold Hid;rw[<-Y.out,Lib.extract_data,show at_+2 - at_=2 by omega]
      rw[if_neg (by omega),HX.out]at G W
      have ab:=W.out
      go_wp2_with fail
      refine(HL.out _).mono ?_
      rintro e w' ⟨rfl,rfl⟩
      go_wp2_with fail
      refine(gU (s.extract at_ (at_+2)) (by simp;omega) _).mono ?_
      rintro e w1 ⟨rfl,I⟩
      have R:=N.trans (I.mono N.size)
      generalize (bnd (s.extract at_ (at_+2)).data.toList 2 2).1=lo at*
      generalize (bnd (s.extract at_ (at_+2)).data.toList 2 2).2=hi at*
      go_wp2
      go_ret3
      exact⟨M.out _ _ _ G.out,R⟩
    · obtain rfl:m=3:=by omega
      have W:=AF (K.out _ _ _ G.out)
      have HX:Hid (o.take 3=(s.extract at_ (at_+3)).data.toList):=by unfold Hid;rw[<-Y.out,Lib.extract_data,show at_+3 - at_=3 by omega]
      rw[if_neg (by omega),HX.out]at G W
      have ab:=W.out
      go_wp2_with fail
      refine(HL.out _).mono ?_
      rintro e w' ⟨rfl,rfl⟩
      go_wp2_with fail
      refine(gT (s.extract at_ (at_+3)) (by simp;omega) _).mono ?_
      rintro e w1 ⟨rfl,I⟩
      have R:=N.trans (I.mono N.size)
      generalize (bnd (s.extract at_ (at_+3)).data.toList 3 3).1=lo at*
      generalize (bnd (s.extract at_ (at_+3)).data.toList 3 3).2=hi at*
      go_wp2
      go_ret3
      exact⟨M.out _ _ _ G.out,R⟩
theorem ux (l:List UInt8)(h:l≠[]):Lib.validD l=if(pc l).2 then Lib.validD (l.drop (pc l).1)else false:=by
 rw[Lib.validD_step l h]
 cases r:(pc l).2 with
 | true=>
   have A:=zw l h
   have m:=r
   rw[A]at m
   obtain⟨g1,o,_⟩:=ss _ _ _ _ _ (l.getD 0 0).toNat_lt (l.getD 1 0).toNat_lt (l.getD 2 0).toNat_lt (l.getD 3 0).toNat_lt m
   rw[<-A]at o
   rw[<-Lib.decodeL_N]at g1 o
   rw[if_neg (λe=>g1 (Prod.ext e.1 e.2)),o,if_pos rfl]
 | false=>
   rw[(wT l h r).2,if_pos ⟨rfl,rfl⟩,if_neg (by simp)]
theorem nh (s:ByteArray)(Y:s.size<=16777216)(w:World):
 Calls Tryz.prog 133 #[.string s] w λe w'=>e=.returned (.bool (Lib.validD s.data.toList))/\Below w.heap.size w w':=by
 go_enter Tryz.func133,Tryz.ntmps133
 go_wp2
 go_loopw [3] (λi wr=>∃at_:Nat,i=.int .i64 at_/\at_<=s.size/\Below w.heap.size w wr/\Hid (Lib.validD (s.data.toList.drop at_)=Lib.validD s.data.toList)) (λi _=>s.size - (intOf i).toNat)
 case atStart=>exact⟨0,rfl,Nat.zero_le _,AH _ _,by simp[Hid]⟩
 case round=>
  obtain⟨at_,rfl,V,G,N⟩:=hrel
  have I:=G.size
  by_cases K:at_<s.size
  · have o:s.data.toList.drop at_≠[]:=by intro e;have:=congrArg List.length e;simp at this;omega
    have J:=uJ _ o
    have R:=uG (s.data.toList.drop at_)
    have O:=AF (ux _ o)
    have M:at_+(pc (s.data.toList.drop at_)).1<=s.size:=by have:=J.2.1;simp at this;omega
    have U:=J.1
    have E:Hid (∀w,Calls Tryz.prog 153 #[.string s,.int .i64 at_] w λe w'=>
     e=.returned (.tuple #[.int .i64 (pc (s.data.toList.drop at_)).1,.int .i32 (rn (s.data.toList.drop at_)),.bool (pc (s.data.toList.drop at_)).2])/\Below w.heap.size w w'):=λw=>nH s at_ K (by omega) w
    have W:Hid ((s.data.toList.drop at_).drop (pc (s.data.toList.drop at_)).1=s.data.toList.drop (at_+(pc (s.data.toList.drop at_)).1)):=by unfold Hid;rw[List.drop_drop]
    clear o J
    generalize rn (s.data.toList.drop at_)=r at*
    generalize (pc (s.data.toList.drop at_)).1=q at*
    generalize (pc (s.data.toList.drop at_)).2=ok at*
    go_wp2_with fail
    refine(E.out _).mono ?_
    rintro e w1 ⟨rfl,A⟩
    have m:=G.trans (A.mono I)
    clear G A E
    cases ok with
    | true=>
      go_wp2
      refine⟨⟨at_+q,by go_num,M,m,?_⟩,by simp[intOf];omega⟩
      unfold Hid
      rw[<-W.out,←N.out,O.out];simp
    | false=>
      go_wp2
      go_ret
      exact⟨dZ (by rw[<-N.out,O.out];rfl),m⟩
  · obtain rfl:at_=s.size:=by omega
    go_wp2
    go_ret
    refine⟨dZ ?_,G⟩
    rw[<-N.out,List.drop_of_length_le (by simp)];rfl
end Go.Proofs.YtepcpgdfbaklfaaGreatDoor
