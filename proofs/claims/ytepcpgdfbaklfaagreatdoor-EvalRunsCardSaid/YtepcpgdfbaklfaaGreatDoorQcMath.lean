/- Plain facts on bytes: which bytes a set of the URL standard holds. No program in sight, no condition. -/
import Derived.Lib.Strings
import Derived.Lib.Bytealg
import Derived.Laws.BitsAll
import Derived.Laws.Bits64
import Derived.Lib.IndexMore
import Derived.Test.YtepcpgdfbaklfaaGreatDoorQcLib
import Derived.Test.YtepcpgdfbaklfaaGreatDoorProg
import Derived.WalkKit
import Derived.WalkSpells
import Derived.WalkLawsBesides
import Derived.Lib.Hide
import Derived.Outline
import Derived.Test.YtepcpgdfbaklfaaGreatDoorQcTp0
import Derived.Shelf.GgClosure.StringsIndexFunc
import Derived.Laws.RangeAny
import Derived.Laws.RangeString
import Derived.Lib.FieldsP
import Derived.Lib.SpaceUEq
import Derived.Lib.SlicesS
import Derived.Lib.SplitLaws
import Derived.Lib.IndexLaws
set_option maxHeartbeats 1000000
namespace Go.Proofs.YtepcpgdfbaklfaaGreatDoor
def mem (l:List UInt8)(c:Int):Bool:=l.any λx=>(x.toNat:Int)==c
def pin (c set:Int):Bool:=
 if c<32\/126<c then true
 else if set=1 then mem [32,34,60,62,96] c
 else if set=6 then mem [32,34,35,60,62,63,94,123,125,96,47,58,59,61,64,91,92,93,124,36,37,38,43,44] c
 else if set=5 then mem [32,34,35,60,62,63,94,123,125,96,47,58,59,61,64,91,92,93,124] c
 else if set=4 then mem [32,34,35,60,62,63,94,123,125,96] c
 else if set=3 then mem [32,34,35,60,62,39] c
 else if set=2 then mem [32,34,35,60,62] c
 else false
theorem mem_append (a b:List UInt8)(c:Int):mem (a++b) c=(mem a c||mem b c):=by simp[mem]
def Ai (n:Nat):UInt8:=[48,49,50,51,52,53,54,55,56,57,65,66,67,68,69,70].getD n 0
def Ar (set:Int)(c:UInt8):List UInt8:=if pin c.toNat set then[37,Ai (c.toNat / 16),Ai (c.toNat % 16)]else[c]
def enc (set:Int)(l:List UInt8):List UInt8:=l.flatMap (Ar set)
def eT (r:Int):Bool:=decide (48<=r/\r<=57)
def eZ (r:Int):Bool:=decide ((65<=r/\r<=90)\/(97<=r/\r<=122))
theorem zR (q m:Nat)(h:m<64):(64*q+m)||| 32=64*q+(m||| 32):=by
 have E:m||| 32<64:=by
  have:= @Nat.or_lt_two_pow m 32 6 h (by decide)
  simpa using this
 apply Nat.eq_of_testBit_eq
 intro j
 have A:=Nat.testBit_two_pow_mul_add q (i:=6) (b:=m) (by simpa using h) j
 have r:=Nat.testBit_two_pow_mul_add q (i:=6) (b:=m||| 32) (by simpa using E) j
 simp only[show(2:Nat) ^ 6=64 from rfl]at A r
 rw[Nat.testBit_or,A,r]
 by_cases o:j<6
 · rw[if_pos o,if_pos o,Nat.testBit_or]
 · rw[if_neg o,if_neg o]
   have:Nat.testBit 32 j=false:=by
    apply Nat.testBit_lt_two_pow
    have:(2:Nat) ^ 6<=2 ^ j:=Nat.pow_le_pow_right (by decide) (by omega)
    omega
   rw[this,Bool.or_false]
theorem sI (m:Nat)(h:m<64):m||| 32=if m / 32=0 then m+32 else m:=by
 have key:∀m:Fin 64,m.1||| 32=if m.1 / 32=0 then m.1+32 else m.1:=by decide
 exact key ⟨m,h⟩
theorem Aq (r:Int)(J: -2147483648<=r)(I:r<=2147483647):bits .or .i32 r 32=if r % 64<32 then r+32 else r:=by
 have m:(BitVec.ofInt 32 32).toNat=32:=by decide
 show IntKind.i32.wrap ((BitVec.ofInt 32 r||| BitVec.ofInt 32 32).toNat:Nat)=_
 rw[BitVec.toNat_or,m,BitVec.toNat_ofInt]
 obtain⟨n,o⟩:∃n:Nat,(r % ((2 ^ 32:Nat):Int)).toNat=n:=⟨_,rfl⟩
 have G:(n:Int)=r % 4294967296:=by
  rw[<-o]
  show((r % 4294967296).toNat:Int)=_
  omega
 rw[o]
 have e:n=64*(n / 64)+n % 64:=by omega
 have E:=sI (n % 64) (by omega)
 rw[e,zR _ _ (by omega),E]
 simp only[IntKind.wrap,IntKind.bits,IntKind.signed]
 by_cases A:r % 64<32
 · rw[if_pos A,if_pos (by omega)]
   simp
   omega
 · rw[if_neg A,if_neg (by omega)]
   simp
   omega
set_option linter.unusedVariables false
open Go.RowKit
theorem lj (r:Int)(w:World):
 Calls Tryz.prog 105 #[.int .i32 r] w λe w'=>e=.returned (.bool (eT r))/\w=w':=by
 by_cases A:48<=r
 · by_cases o:r<=57
   · have H:Hid (eT r=true):=by unfold Hid eT;simp;omega
     go_enter Tryz.func105,Tryz.ntmps105
     go_wp2
     go_ret
     exact⟨dZ H.out.symm,rfl⟩
   · have H:Hid (eT r=false):=by unfold Hid eT;simp;omega
     have m:57<r:=by omega
     go_enter Tryz.func105,Tryz.ntmps105
     go_wp2
     go_ret
     exact⟨dZ H.out.symm,rfl⟩
 · have H:Hid (eT r=false):=by unfold Hid eT;simp;omega
   have m:r<48:=by omega
   go_enter Tryz.func105,Tryz.ntmps105
   go_wp2
   go_ret
   exact⟨dZ H.out.symm,rfl⟩
theorem pO (r:Int)(w:World)(I: -2147483648<=r)(g1:r<=2147483647):
 Calls Tryz.prog 108 #[.int .i32 r] w λe w'=>e=.returned (.bool (eZ r))/\w=w':=by
 have E:=Aq r I g1
 have m:Hid (eZ r=decide (97<=bits .or .i32 r 32/\bits .or .i32 r 32<=122)):=by
  unfold Hid eZ
  rw[E]
  apply decide_eq_decide.2
  split <;> omega
 clear E
 by_cases A:97<=bits .or .i32 r 32
 · by_cases o:bits .or .i32 r 32<=122
   · go_enter Tryz.func108,Tryz.ntmps108
     go_wp2
     go_ret
     exact⟨dZ (by rw[m.out];simp[A,o]),rfl⟩
   · have G:122<bits .or .i32 r 32:=by omega
     go_enter Tryz.func108,Tryz.ntmps108
     go_wp2
     go_ret
     exact⟨dZ (by rw[m.out];simp[A,o]),rfl⟩
 · have G:bits .or .i32 r 32<97:=by omega
   go_enter Tryz.func108,Tryz.ntmps108
   go_wp2
   go_ret
   exact⟨dZ (by rw[m.out,decide_eq_false (by omega)]),rfl⟩
theorem oh (r:Int)(w:World):Calls Tryz.prog 136 #[.int .i32 r] w λe w'=>e=.returned (.bool (eT r))/\w=w':=by
 by_cases o:48<=r
 · by_cases m:r<=57
   ·
    have H:Hid (eT r=true):=by unfold Hid eT;simp;omega
    go_enter Tryz.func136,Tryz.ntmps136
    go_wp2
    go_ret
    exact⟨dZ H.out.symm,rfl⟩
   ·
    have H:Hid (eT r=false):=by unfold Hid eT;simp;omega
    go_enter Tryz.func136,Tryz.ntmps136
    go_wp2
    go_ret
    exact⟨dZ H.out.symm,rfl⟩
 ·
  have H:Hid (eT r=false):=by unfold Hid eT;simp;omega
  go_enter Tryz.func136,Tryz.ntmps136
  go_wp2
  go_ret
  exact⟨dZ H.out.symm,rfl⟩
theorem oE (r:Int)(w:World):Calls Tryz.prog 135 #[.int .i32 r] w λe w'=>e=.returned (.bool (eZ r))/\w=w':=by
 by_cases E:65<=r
 · by_cases A:r<=90
   ·
    have H:Hid (eZ r=true):=by unfold Hid eZ;simp;omega
    go_enter Tryz.func135,Tryz.ntmps135
    go_wp2
    go_ret
    exact⟨dZ H.out.symm,rfl⟩
   · by_cases m:97<=r
     · by_cases o:r<=122
       ·
        have H:Hid (eZ r=true):=by unfold Hid eZ;simp;omega
        go_enter Tryz.func135,Tryz.ntmps135
        go_wp2
        go_ret
        exact⟨dZ H.out.symm,rfl⟩
       ·
        have H:Hid (eZ r=false):=by unfold Hid eZ;simp;omega
        go_enter Tryz.func135,Tryz.ntmps135
        go_wp2
        go_ret
        exact⟨dZ H.out.symm,rfl⟩
     ·
      have H:Hid (eZ r=false):=by unfold Hid eZ;simp;omega
      go_enter Tryz.func135,Tryz.ntmps135
      go_wp2
      go_ret
      exact⟨dZ H.out.symm,rfl⟩
 · have m:¬97<=r:=by omega
   have H:Hid (eZ r=false):=by unfold Hid eZ;simp;omega
   go_enter Tryz.func135,Tryz.ntmps135
   go_wp2
   go_ret
   exact⟨dZ H.out.symm,rfl⟩
open Go.Lib
theorem kC (s:ByteArray)(pos:Nat)(h:pos<s.size):s.data.toList.drop pos=s[pos]::s.data.toList.drop (pos+1):=by
 rw[List.drop_eq_getElem_cons (by simpa using h)];rfl
theorem xq (p:Nat->Bool)(m:UInt8->Bool)(M:∀c:UInt8,c.toNat<128->p c.toNat=m c)(K:∀r,128<=r->p r=true)(J:∀c:UInt8,128<=c.toNat->m c=true)(s:ByteArray):
 decide (0<=idxFunc p true s)=s.data.toList.any m:=by
 have key:∀(f pos:Nat),s.size - pos<=f->decide (0<=idxFuncFrom p true s f pos)=(s.data.toList.drop pos).any m:=by
  intro f
  induction f with
  | zero=>
    intro pos I
    rw[List.drop_of_length_le (by simp;omega)]
    simp[idxFuncFrom]
  | succ f E=>
    intro pos I
    by_cases o:pos<s.size
    · rw[kC s pos o,List.any_cons,idxFuncFrom,if_pos o]
      by_cases A:s[pos].toNat<128
      · rw[decode_ascii s pos o A,M _ A]
        cases N:m s[pos]with
        | true=>simp
        | false=>
          simp only[Bool.false_eq_true,if_false,Bool.false_or]
          exact E (pos+1) (by omega)
      · have G:=decode_high s pos o (by omega)
        rw[K _ G.1,if_pos rfl,J _ (by omega)]
        simp
    · rw[idxFuncFrom_end _ _ _ _ _ o,List.drop_of_length_le (by simp;omega)]
      simp
 have:=key s.size 0 (by omega)
 rwa[List.drop_zero]at this
def jO (r:Nat):Bool:= !(decide ((65<=r/\r<=90)\/(97<=r/\r<=122))||decide (48<=r/\r<=57)||decide (r=95))
theorem l6 (c:UInt8):jO c.toNat= !wdB c:=by
 unfold jO wdB alB dgB
 congr 1
 have e:decide (c=95)=decide (c.toNat=95):=by
  apply decide_eq_decide.2
  constructor
  · rintro rfl;rfl
  · intro h;exact UInt8.toNat_inj.1 h
 rw[e]
 congr 1;congr 1
 rw[Bool.eq_iff_iff];simp
theorem l5 (r:Nat)(h:128<=r):jO r=true:=by unfold jO;simp;omega
theorem ww (c:UInt8)(h:128<=c.toNat):wdB c=false:=by
 have m:=l6 c
 rw[l5 _ h]at m
 cases hw:wdB c
 · rfl
 · rw[hw]at m;cases m
theorem pv (s:ByteArray):(!decide (0<=idxFunc jO true s))=s.data.toList.all wdB:=by
 rw[xq jO (λc=> !wdB c) (λc _=>l6 c) l5 (λc h=>by simp[ww c h])]
 rw[List.not_any_eq_all_not]
 simp
theorem xi (s:By)(h:s≠[])(m:s.length<=64)(o:dgB (s.getD 0 0)=false):jG s=s.all wdB:=by
 cases s with
 | nil=>exact absurd rfl h
 | cons c r=>
   simp only[List.getD_cons_zero]at o
   simp only[List.length_cons]at m
   simp[jG,o,m]
theorem sO (s:By)(h:64<s.length):jG s=false:=by
 cases s with
 | nil=>rfl
 | cons c r=>simp only[List.length_cons]at h;simp[jG];omega
theorem ri (s:By)(h:dgB (s.getD 0 0)=true):jG s=false:=by
 cases s with
 | nil=>rfl
 | cons c r=>simp only[List.getD_cons_zero]at h;simp[jG,h]
def fO (r:Nat):Bool:=decide (r=9\/r=10\/r=32)
theorem jd (c:UInt8):fO c.toNat=oz c:=by
 unfold fO oz
 apply decide_eq_decide.2
 have e:∀k:UInt8,c=k↔c.toNat=k.toNat:=λk=>⟨λh=>by rw[h],λh=>UInt8.toNat_inj.1 h⟩
 rw[e 9,e 10,e 32];rfl
theorem lz (r:Nat)(h:128<=r):fO r=false:=by unfold fO;simp;omega
theorem rB (c:UInt8)(h:128<=c.toNat):oz c=false:=by rw[<-jd];exact lz _ h
theorem r8 (s:ByteArray)(pos:Nat)(o:pos<s.size)(h:fO (Utf8.decode s pos).1=false):pos+(Utf8.decode s pos).2<=s.size/\1<=(Utf8.decode s pos).2/\∀x∈(s.data.toList.drop pos).take (Utf8.decode s pos).2,oz x=false:=by
 have A:s.data.toList.length=s.size:=by simp
 by_cases J:s[pos].toNat<128
 · rw[decode_ascii s pos o J]at h ⊢
   refine⟨o,AG _,?_⟩
   rw[kC s pos o]
   intro x hx
   simp at hx
   rw[hx,←jd];exact h
 · have I:=decode_high s pos o (by omega)
   have K:=decode_N s pos
   obtain⟨g1,r,g3,g4⟩:=decodeN_conts (s.data.toList.length - pos) (s.data.toList.getD pos 0).toNat (s.data.toList.getD (pos+1) 0).toNat (s.data.toList.getD (pos+2) 0).toNat (s.data.toList.getD (pos+3) 0).toNat
   have M:=decodeN_le_n' (s.data.toList.length - pos) (s.data.toList.getD pos 0).toNat (s.data.toList.getD (pos+1) 0).toNat (s.data.toList.getD (pos+2) 0).toNat (s.data.toList.getD (pos+3) 0).toNat (by omega)
   rw[<-K]at g1 r g3 g4 M
   refine⟨by omega,I.2,?_⟩
   intro x hx
   obtain⟨j,G,m⟩:=List.getElem_of_mem hx
   rw[List.getElem_take,List.getElem_drop]at m
   have E:j<(Utf8.decode s pos).2:=by simp at G;omega
   have e:x=s.data.toList.getD (pos+j) 0:=by rw[<-m];simp[List.getD,List.getElem?_eq_getElem (show pos+j<s.data.toList.length by omega)]
   have N:s.data.toList.getD pos 0=s[pos]:=by simp[List.getD,List.getElem?_eq_getElem (show pos<s.data.toList.length by omega)];rfl
   apply rB
   rw[e]
   rcases(by omega:j=0\/j=1\/j=2\/j=3)with rfl | rfl | rfl | rfl
   · rw[Nat.add_zero,N];omega
   · have:=(g1 (by omega)).1;omega
   · have:=(r (by omega)).1;omega
   · have:=(g3 (by omega)).1;omega
def fT (s:ByteArray)(a b:Nat):By:=(s.data.toList.drop a).take (b - a)
theorem ph (s:ByteArray)(a pos:Nat)(h:a<=pos):s.data.toList.drop a=fT s a pos++s.data.toList.drop pos:=by
 unfold fT
 have:(s.data.toList.drop a).drop (pos - a)=s.data.toList.drop pos:=by rw[List.drop_drop];congr 1;omega
 rw[<-this,List.take_append_drop]
theorem qX (s:ByteArray)(a pos k:Nat)(h:a<=pos):fT s a (pos+k)=fT s a pos++(s.data.toList.drop pos).take k:=by
 unfold fT
 have e:s.data.toList.drop pos=(s.data.toList.drop a).drop (pos - a):=by rw[List.drop_drop];congr 1;omega
 rw[e,show pos+k - a=(pos - a)+k by omega,List.take_add]
theorem oW (c:UInt8)(r:By)(h:oz c=true):fG (c::r)=fG r:=by
 unfold fG
 rw[eV,if_pos h]
 simp
theorem oV (a r:By)(c:UInt8)(h:zx a)(m:a≠[])(o:oz c=true):fG (a++c::r)=a::fG r:=by
 unfold fG;rw[kM _ _ _ _ h o];simp[m]
theorem o6 (s:ByteArray):∀(f pos:Nat) (st:Option Nat) (m:List (Nat×Nat)),s.size<=pos+f->pos<=s.size->(∀a,st=some a->a<pos/\zx (fT s a pos))->
 (closeSpans s (spansFromP fO s f pos st m)).map (λx=>fT s x.1 x.2)=m.map (λx=>fT s x.1 x.2)++fG (s.data.toList.drop (st.getD pos)):=by
 have R:s.data.toList.length=s.size:=by simp
 have G:∀(pos:Nat) (st:Option Nat) (m:List (Nat×Nat)),¬pos<s.size->pos<=s.size->(∀a,st=some a->a<pos/\zx (fT s a pos))->
  (closeSpans s (m,st)).map (λx=>fT s x.1 x.2)=m.map (λx=>fT s x.1 x.2)++fG (s.data.toList.drop (st.getD pos)):=by
  intro pos st m O J A
  obtain rfl:pos=s.size:=by omega
  cases st with
  | none=>
    have e:s.data.toList.drop s.size=[]:=List.drop_of_length_le (by omega)
    simp only[closeSpans,Option.getD_none]
    rw[e];simp[fG,eV]
  | some a=>
    obtain⟨N,E⟩:=A a rfl
    have e:s.data.toList.drop a=fT s a s.size:=by unfold fT;rw[List.take_of_length_le (by simp)]
    simp only[closeSpans,List.map_append,List.map_cons,List.map_nil,Option.getD_some]
    rw[e,ye _ E (by intro K;have:=congrArg List.length K;simp[fT]at this;omega)]
 intro f
 induction f with
 | zero=>
   intro pos st m O J A
   exact G pos st m (by omega) J A
 | succ f I=>
   intro pos st m O J A
   by_cases o:pos<s.size
   · unfold spansFromP
     rw[if_pos o]
     cases r:fO (Utf8.decode s pos).1 with
     | true=>
       rw[if_pos rfl]
       have U:s[pos].toNat<128:=by
        rcases Nat.lt_or_ge s[pos].toNat 128 with h | h
        · exact h
        · have:=decode_high s pos o h
          rw[lz _ this.1]at r;cases r
       rw[decode_ascii s pos o U]at r ⊢
       rw[jd]at r
       cases st with
       | none=>
         dsimp only
         rw[I (pos+1) none m (by omega) (by omega) (λa h=>by cases h)]
         simp only[Option.getD_none]
         rw[kC s pos o,oW _ _ r]
       | some a=>
         obtain⟨N,E⟩:=A a rfl
         dsimp only
         rw[I (pos+1) none (m++[(a,pos)]) (by omega) (by omega) (λa h=>by cases h)]
         simp only[Option.getD_none,Option.getD_some,List.map_append,List.map_cons,List.map_nil,List.append_assoc]
         rw[ph s a pos (by omega),kC s pos o,oV _ _ _ E (by intro K;have:=congrArg List.length K;simp[fT]at this;omega) r]
         rfl
     | false=>
       obtain⟨w1,w2,M⟩:=r8 s pos o r
       rw[if_neg (by simp)]
       cases st with
       | none=>
         dsimp only
         rw[I _ (some pos) m (by omega) w1 (λa h=>by
          obtain rfl:pos=a:=by injection h
          refine⟨by omega,?_⟩
          unfold fT
          rw[show pos+(Utf8.decode s pos).2 - pos=(Utf8.decode s pos).2 by omega]
          exact M)]
         simp
       | some a=>
         obtain⟨N,E⟩:=A a rfl
         dsimp only
         rw[I _ (some a) m (by omega) w1 (λV h=>by
          obtain rfl:a=V:=by injection h
          refine⟨by omega,?_⟩
          rw[qX s a pos _ (by omega)]
          intro x hx
          rcases List.mem_append.1 hx with hx | hx
          · exact E x hx
          · exact M x hx)]
         simp
   · rw[spansFromP_end _ _ _ _ _ _ o]
     exact G pos st m o J A
theorem n9 (s:ByteArray):(goFieldsP fO s).map bl=fG (bl s):=by
 have:=o6 s s.size 0 none [] (by omega) (by omega) (λa h=>by cases h)
 simp only[List.map_nil,List.nil_append,Option.getD_none,List.drop_zero]at this
 unfold goFieldsP spansOfP
 rw[List.map_map]
 have e:(bl ∘ λx:Nat×Nat=>s.extract x.1 x.2)=λx=>fT s x.1 x.2:=by
  funext x
  simp only[Function.comp,bl,fT,extract_data]
 rw[e];exact this
open Go.RowKit Go.Shelf
theorem yj (r:Nat):jO r=(!eZ (r:Int)&& !eT (r:Int)&&decide (r≠95)):=by
 unfold jO eZ eT
 rw[Bool.eq_iff_iff]
 simp
 omega
theorem lI (r:Nat)(G:r<=1114111)(w:World):
 Calls Tryz.prog 107 #[.int .i32 (r:Int)] w λe w'=>e=.returned (.bool (jO r))/\w=w':=by
 have o:=AF (λw=>pO (r:Int) w (by omega) (by omega))
 have E:=AF (λw=>lj (r:Int) w)
 have m:=AF (yj r)
 have I:(0:Int)<=(r:Int):=by omega
 rcases ha:eZ (r:Int)with _ | _
 · rcases hd:eT (r:Int)with _ | _
   · rw[ha]at o m
     rw[hd]at E m
     have A:Hid (jO r=((r:Int)!=95)):=by
      unfold Hid
      rw[m.out,Bool.eq_iff_iff]
      simp
      omega
     clear ha hd m
     go_enter Tryz.func107,Tryz.ntmps107
     go_wp2_with (first | (go_at_call 108;refine(o.out _).mono ?_;rintro e w' ⟨rfl,rfl⟩) | (go_at_call 105;refine(E.out _).mono ?_;rintro e w' ⟨rfl,rfl⟩))
     go_ret
     exact⟨dZ A.out.symm,rfl⟩
   · rw[ha]at o m
     rw[hd]at E m
     have A:Hid (jO r=false):=by unfold Hid;rw[m.out];rfl
     clear ha hd m
     go_enter Tryz.func107,Tryz.ntmps107
     go_wp2_with (first | (go_at_call 108;refine(o.out _).mono ?_;rintro e w' ⟨rfl,rfl⟩) | (go_at_call 105;refine(E.out _).mono ?_;rintro e w' ⟨rfl,rfl⟩))
     go_ret
     exact⟨dZ A.out.symm,rfl⟩
 · rw[ha]at o m
   have A:Hid (jO r=false):=by unfold Hid;rw[m.out];rfl
   clear ha m
   go_enter Tryz.func107,Tryz.ntmps107
   go_wp2_with (first | (go_at_call 108;refine(o.out _).mono ?_;rintro e w' ⟨rfl,rfl⟩))
   go_ret
   exact⟨dZ A.out.symm,rfl⟩
theorem k9:∀args w,(callFunc 107 args).run Tryz.prog w=.ok (.enter 107 args) w:=enters_of Tryz.func107 (by kernel_rfl) rfl
theorem lJ (s:ByteArray)(w:World):
 Calls Tryz.prog 106 #[.string s,.func (.func 107) #[] #[]] w λe w'=>e=.returned (.bool (!s.data.toList.all wdB))/\Below w.heap.size w w':=by
 refine(Tryz.strings_ContainsFunc_grows 107 #[] k9 jO s w ?_).mono ?_
 · intro W x hx m
   refine(lI x hx W).mono ?_
   rintro e w' ⟨rfl,rfl⟩
   exact⟨rfl,AH _ _⟩
 · rintro e w' ⟨rfl,m⟩
   have:=pv s
   refine⟨dZ ?_,m⟩
   rw[<-this];simp
theorem ia (s:ByteArray)(h:s.size=0):s=⟨#[]⟩:=by
 obtain⟨⟨l⟩⟩:=s
 simp[ByteArray.size]at h
 subst h;rfl
theorem iN (s:ByteArray)(h:0<s.size):s.toList.isEmpty=false:=by
 rw[ByteArray.toList_eq]
 obtain⟨⟨l⟩⟩:=s
 cases l with
 | nil=>simp[ByteArray.size]at h
 | cons c r=>rfl
theorem xD (s:ByteArray)(h:0<s.size):eT (((s[0]'h).toNat:Nat):Int)=dgB (s.data.toList.getD 0 0):=by
 rw[qw s 0 h]
 unfold eT dgB
 apply decide_eq_decide.2
 omega
theorem mJ (s:ByteArray)(N:s.size<=140737488351232)(w:World):
 Calls Tryz.prog 65 #[.string s] w λe w'=>e=.returned (.bool (jG s.data.toList))/\Below w.heap.size w w':=by
 by_cases I:s.size=0
 · obtain rfl:=ia s I
   have o:Hid (jG (⟨#[]⟩:ByteArray).data.toList=false):=rfl
   clear I N
   go_enter Tryz.func65,Tryz.ntmps65
   go_wp2_with fail
   go_ret
   exact⟨dZ o.out.symm,AH _ _⟩
 have R:=iN s (by omega)
 have J:0<s.size:=by omega
 have O:(0:Int)<(s.size:Int):=by omega
 by_cases M:64<s.size
 · have o:Hid (jG s.data.toList=false):=sO _ (by simpa using M)
   have G:(64:Int)<(s.size:Int):=by omega
   clear I
   go_enter Tryz.func65,Tryz.ntmps65
   go_wp2_with fail
   go_ret
   exact⟨dZ o.out.symm,AH _ _⟩
 have G:¬(64:Int)<(s.size:Int):=by omega
 have K:=AF (λw=>lj (((s[0]'J).toNat:Nat):Int) w)
 have hd0:=xD s J
 have Y:(s[0]'J).toNat<256:=(s[0]'J).toNat_lt
 cases r:dgB (s.data.toList.getD 0 0)with
 | true=>
   have o:Hid (jG s.data.toList=false):=ri _ r
   rw[hd0,r]at K
   clear I hd0 r
   go_enter Tryz.func65,Tryz.ntmps65
   go_wp2_with fail
   refine(K.out _).mono ?_
   rintro e w' ⟨rfl,rfl⟩
   go_wp2_with fail
   go_ret
   exact⟨dZ o.out.symm,AH _ _⟩
 | false=>
   have m:s.data.toList.length=s.size:=by simp
   have A:s.data.toList≠[]:=by intro e;rw[e]at m;simp at m;omega
   have o:Hid (jG s.data.toList=s.data.toList.all wdB):=xi _ A (by omega) r
   have V:=AF (λw=>lJ s w)
   rw[hd0,r]at K
   clear I hd0 r A m
   generalize s.data.toList.all wdB=v at*
   go_enter Tryz.func65,Tryz.ntmps65
   go_wp2_with fail
   refine(K.out _).mono ?_
   rintro e w' ⟨rfl,rfl⟩
   go_wp2_with fail
   have U:∀(fn:Fn) (first cap:Array Value) (w:World),(Instr.makeFunc fn first cap).run Tryz.prog w=.ok (.func fn first cap) w:=λ_ _ _ _=>rfl
   refine(V.out _).mono ?_
   rintro e w1 ⟨rfl,E⟩
   have W:=AF E
   clear E
   go_wp2_with fail
   go_ret
   exact⟨dZ (by rw[o.out]),W.out⟩
theorem kV (s:ByteArray)(m:s.size<=140737488351232)(w:World):
 Calls Tryz.prog 65 #[.string s] w λe w'=>e=.returned (.bool (jG (bl s)))/\Below w.heap.size w w':=mJ s m w
theorem nQ (s:ByteArray)(o:s.size<=140737488351232)(w:World):
 Calls Tryz.prog 103 #[.string s] w λe w'=>e=.returned (.bool (!jG (bl s)))/\Below w.heap.size w w':=by
 have r:=AF (λw=>kV s o w)
 generalize jG (bl s)=v at*
 go_enter Tryz.func103,Tryz.ntmps103
 go_wp2_with fail
 refine(r.out _).mono ?_
 rintro e w1 ⟨rfl,m⟩
 go_wp2_with fail
 go_ret
 exact⟨rfl,m⟩
def rD:List ByteArray->Nat->Int
 | [],_=> -1
 | s::l,k=>if jG (bl s)then rD l (k+1)else(k:Int)
theorem vx (l:List ByteArray):∀k,decide (0<=rD l k)= !ex (bls l):=by
 induction l with
 | nil=>intro k;rfl
 | cons s l m=>
   intro k
   unfold rD
   split
   · rename_i h
     rw[m]
     simp[ex,bls,h]
   · rename_i h
     simp[ex,bls,h]
theorem nY (ok:Nat->Prop)(l:List ByteArray)(hl:l.length<=140737488351232)(V:∀s∈l,s.size<=140737488351232)(v:Value)(w:World)(h:Strs ok w v l)(K:∀b,ok b->b<w.heap.size):
 Calls Tryz.prog 138 #[v,.func (.func 103) #[] #[]] w λe w'=>e=.returned (.int .i64 (rD l 0))/\Below w.heap.size w w':=by
 obtain⟨a,c,rfl,h1,h2,Y⟩:=h
 have ee:∀args w,(callFunc 103 args).run Tryz.prog w=.ok (.enter 103 args) w:=enters_of Tryz.func103 (by kernel_rfl) rfl
 have H3:=AF Y
 have HS:=AF V
 have HK:=AF K
 clear Y V K
 go_enter Tryz.func138,Tryz.ntmps138
 go_wp2_with fail
 go_loopw [8] (λi wr=>∃k:Nat,i=.int .i64 k/\k<=l.length/\Below w.heap.size w wr/\Hid (rD (l.drop k) k=rD l 0)) (λi _=>l.length - (intOf i).toNat)
 case atStart=>exact⟨0,rfl,Nat.zero_le _,AH _ _,rfl⟩
 case round=>
  obtain⟨k,rfl,hk,M,U⟩:=hrel
  by_cases r:k<l.length
  · obtain⟨b,o,ha,R,m⟩:=H3.out (by intro e;rw[e]at r;simp at r)
    obtain⟨s,A⟩:∃s,l[k]? =some s:=⟨_,List.getElem?_eq_getElem r⟩
    have hc:wr.cell? ⟨b,o+k,none⟩=some (.string s):=(M.cell (p:=⟨b,o+k,none⟩) (HK.out b R)).trans (m k s A)
    have O:=HS.out s (List.mem_of_getElem? A)
    have N:=AF (λw=>nQ s O w)
    have W:(k:Int)<(l.length:Int):=by omega
    have I:=AF M
    have Z:Hid (l.drop k=s::l.drop (k+1)):=by
     unfold Hid
     rw[List.drop_eq_getElem_cons r]
     rw[List.getElem?_eq_getElem r]at A
     injection A with e;rw[e]
    clear m A M
    subst ha
    cases J:jG (bl s)with
    | true=>
      rw[J]at N
      have G:Hid (rD (l.drop (k+1)) (k+1)=rD l 0):=by unfold Hid;rw[<-U.out,Z.out,rD,if_pos J]
      clear J
      go_wp2_with fail
      refine(N.out _).mono ?_
      rintro e w1 ⟨rfl,E⟩
      replace I:=AF (I.out.trans (E.mono I.out.size))
      clear E
      go_wp2_with fail
      go_roundw
      case rel=>exact⟨k+1,by go_num,r,I.out,G⟩
      case measure=>simp[intOf];omega
    | false=>
      rw[J]at N
      have G:Hid ((k:Int)=rD l 0):=by unfold Hid;rw[<-U.out,Z.out,rD,if_neg (by simp[J])]
      clear J
      go_wp2_with fail
      refine(N.out _).mono ?_
      rintro e w1 ⟨rfl,E⟩
      replace I:=AF (I.out.trans (E.mono I.out.size))
      clear E
      go_wp2_with fail
      go_ret
      exact⟨jN G.out,I.out⟩
  · have aa:¬(k:Int)<(l.length:Int):=by omega
    have G:Hid (rD l 0= -1):=by unfold Hid;rw[<-U.out,List.drop_of_length_le (by omega)];rfl
    have I:=AF M
    clear M
    go_wp2_with fail
    go_ret
    exact⟨jN G.out.symm,I.out⟩
theorem lr (ok:Nat->Prop)(l:List ByteArray)(E:l.length<=140737488351232)(A:∀s∈l,s.size<=140737488351232)(v:Value)(w:World)(h:Strs ok w v l)(m:∀b,ok b->b<w.heap.size):
 Calls Tryz.prog 102 #[v,.func (.func 103) #[] #[]] w λe w'=>e=.returned (.bool (!ex (bls l)))/\Below w.heap.size w w':=by
 have G:=AF (nY ok l E A v w h m)
 have I:=AF (vx l 0)
 generalize rD l 0=r at*
 clear h m A E
 go_enter Tryz.func102,Tryz.ntmps102
 go_wp2_with fail
 refine G.out.mono ?_
 rintro e w1 ⟨rfl,o⟩
 go_wp2_with fail
 go_ret
 exact⟨dZ I.out,o⟩
theorem kR (ok:Nat->Prop)(l:List ByteArray)(E:l.length<=140737488351232)(A:∀s∈l,s.size<=140737488351232)(v:Value)(w:World)(h:Strs ok w v l)(m:∀b,ok b->b<w.heap.size):
 Calls Tryz.prog 63 #[v] w λe w'=>e=.returned (.bool (ex (bls l)))/\Below w.heap.size w w':=by
 have G:=AF (lr ok l E A v w h m)
 generalize ex (bls l)=r at*
 clear h m A E
 go_enter Tryz.func63,Tryz.ntmps63
 go_wp2_with fail
 refine G.out.mono ?_
 rintro e w1 ⟨rfl,o⟩
 go_wp2_with fail
 go_ret
 exact⟨dZ (by simp),o⟩
theorem Ao (c:UInt8)(l:By):List.isPrefixOf [c,c] l=match l with | a::b::_=>decide (a=c/\b=c) | _=>false:=by
 match l with
 | []=>rfl
 | [_]=>simp[List.isPrefixOf]
 | a::b::r=>
   simp only[List.isPrefixOf,Bool.and_true]
   rw[Bool.eq_iff_iff]
   simp
   constructor
   · rintro⟨o,m⟩;exact⟨o.symm,m.symm⟩
   · rintro⟨o,m⟩;exact⟨o.symm,m.symm⟩
theorem iB (c:UInt8):∀l:By,(gq c l=none/\index l [c,c]= -1)\/(∃a r,gq c l=some (a,r)/\index l [c,c]=(a.length:Nat))
 | []=>.inl ⟨rfl,by simp[index]⟩
 | [x]=>.inl ⟨rfl,by simp[index,List.isPrefixOf]⟩
 | x::y::l=>by
   rw[index,Ao]
   unfold gq
   by_cases h:x=c/\y=c
   · right
     exact⟨[],l,by rw[if_pos h],by simp[h]⟩
   · rw[if_neg h]
     rcases iB c (y::l)with⟨o,m⟩ | ⟨a,r,o,m⟩
     · left
       rw[o,m]
       refine⟨rfl,?_⟩
       simp only[decide_eq_true_eq]
       rw[if_neg h];rfl
     · right
       refine⟨x::a,r,by rw[o];rfl,?_⟩
       simp only[decide_eq_true_eq]
       rw[if_neg h,m,if_neg (by simp)]
       simp
theorem mU (c:UInt8)(l:By):contains l [c,c]=(gq c l).isSome:=by
 unfold contains
 rcases iB c l with⟨o,m⟩ | ⟨a,r,o,m⟩
 · rw[o,m];rfl
 · rw[o,m];simp
theorem tu (c:UInt8)(l:By)(h:gq c l=none):cut l [c,c]=(l,[],false):=by
 unfold cut
 rcases iB c l with⟨m,o⟩ | ⟨a,r,m,o⟩
 · rw[o];rfl
 · rw[h]at m;cases m
theorem tt (c:UInt8)(l a r:By)(h:gq c l=some (a,r)):cut l [c,c]=(a,r,true):=by
 unfold cut
 rcases iB c l with⟨m,o⟩ | ⟨I,G,m,o⟩
 · rw[h]at m;cases m
 · rw[h]at m
   injection m with m
   injection m with E A
   subst E;subst A
   obtain⟨e,-,-⟩:=fN c l a r h
   rw[o,if_pos (by omega)]
   simp only[Int.toNat_natCast]
   rw[e]
   simp
theorem wG (c:UInt8)(l:By):hasSuffix l [c]=decide (l.getLast? =some c):=by
 unfold hasSuffix
 rw[Bool.eq_iff_iff,List.isSuffixOf_iff_suffix,decide_eq_true_eq]
 constructor
 · rintro⟨t,rfl⟩;simp
 · intro h
   obtain⟨t,rfl⟩:=List.getLast?_eq_some_iff.1 h
   exact⟨t,rfl⟩
theorem pH (m:List ByteArray)(x:ByteArray):containsS m x=(bls m).contains (bl x):=by
 rw[Bool.eq_iff_iff,containsS_iff,List.contains_iff_mem]
 unfold bls
 rw[List.mem_map]
 constructor
 · intro h;exact⟨x,h,rfl⟩
 · rintro⟨y,o,r⟩
   have:y=x:=by rw[<-gW y,r,gW]
   rw[<-this];exact o
theorem mc (s:ByteArray)(c:UInt8):indexB s ⟨#[c]⟩=indexByte (bl s) c:=index_one (bl s) c
theorem rW (c:UInt8):∀(k:Nat) (s:ByteArray),countB s ⟨#[c]⟩=k->(splitB ⟨#[c]⟩ 0 k s).map bl=eV (·==c) (bl s):=by
 intro k
 induction k with
 | zero=>
   intro s r
   rw[splitB_zero]
   have G:indexB s ⟨#[c]⟩= -1:=by
    rcases indexB_cases s ⟨#[c]⟩with h | ⟨i,h,-⟩
    · exact h
    · rw[countB_hit s ⟨#[c]⟩ i (AG 1) h]at r;omega
   rw[mc]at G
   rw[kL]
   · rfl
   · intro x hx
     obtain⟨j,E,m⟩:=List.getElem_of_mem hx
     have:=indexByte_none G j
     rw[List.getElem?_eq_getElem E,m]at this
     simpa using this
 | succ k M=>
   intro s r
   rcases indexB_cases s ⟨#[c]⟩with h | ⟨i,h,O⟩
   · rw[countB_miss s _ h]at r;omega
   · have R:=countB_hit s ⟨#[c]⟩ i (AG 1) h
     rw[splitB_hit _ _ _ _ _ h]
     have K:=h
     rw[mc]at K
     obtain⟨J,U⟩:=indexByte_some K
     have o:(⟨#[c]⟩:ByteArray).size=1:=rfl
     rw[o]at R O ⊢
     rw[List.map_cons,M _ (by omega)]
     have I:i<(bl s).length:=by simp[bl];omega
     have Y:bl (s.extract 0 (i+0))=(bl s).take i:=by unfold bl;rw[extract_from_zero];rfl
     have W:bl (s.extract (i+1) s.size)=(bl s).drop (i+1):=by unfold bl;rw[extract_to_end]
     have V:bl s=(bl s).take i++c::(bl s).drop (i+1):=by
      conv=>lhs;rw[<-List.take_append_drop i (bl s)]
      rw[List.drop_eq_getElem_cons I]
      have:(bl s)[i]=c:=by
       rw[List.getElem?_eq_getElem I]at J
       injection J
      rw[this]
     rw[Y,W]
     conv=>rhs;rw[V]
     rw[kM]
     · intro y N
       obtain⟨j,E,m⟩:=List.getElem_of_mem N
       rw[List.getElem_take]at m
       have A:j<i:=by simp at E;omega
       have:=U j A
       rw[List.getElem?_eq_getElem (by omega),m]at this
       simpa using this
     · simp
theorem qP (c:UInt8)(s:ByteArray):(splitB ⟨#[c]⟩ 0 (countB s ⟨#[c]⟩) s).length=countB s ⟨#[c]⟩+1:=splitB_all ⟨#[c]⟩ (AG 1) 0 _ s rfl
theorem o9 (c:UInt8)(l:By):hasPrefix l [c]=decide (l.head? =some c):=by
 unfold hasPrefix
 cases l with
 | nil=>rfl
 | cons a r=>simp only[List.isPrefixOf,Bool.and_true,List.head?_cons,Option.some.injEq];rw[Bool.eq_iff_iff,beq_iff_eq,decide_eq_true_eq];exact eq_comm
theorem yu (c:UInt8)(l:By):trimPrefix l [c]=if l.head? =some c then l.drop 1 else l:=by
 unfold trimPrefix
 rw[o9]
 simp
theorem nt (p:UInt8->Bool)(l:By):∀x∈eV p l,x.length<=l.length:=by
 induction l with
 | nil=>intro x hx;simp[eV]at hx;simp[hx]
 | cons a r o=>
   intro x hx
   unfold eV at hx
   split at hx
   · rcases List.mem_cons.1 hx with rfl | hx
     · simp
     · have:=o x hx;simp;omega
   · split at hx
     · rename_i h t m
       rcases List.mem_cons.1 hx with rfl | hx
       · have:=o h (by rw[m];simp)
         simp;omega
       · have:=o x (by rw[m];simp[hx])
         simp;omega
     · simp at hx;subst hx;simp
theorem lR (p:UInt8->Bool)(l:By):(eV p l).length<=l.length+1:=by
 induction l with
 | nil=>simp[eV]
 | cons a r o=>
   unfold eV
   split
   · simp;omega
   · split
     · rename_i h t m
       rw[m]at o
       simp at o ⊢;omega
     · simp
theorem fH (s:ByteArray):(bl s).length=s.size:=by simp[bl]
theorem kK (p:UInt8->Bool)(s:ByteArray):(eV p (bl s)).length<=s.size+1:=by
 have:=lR p (bl s)
 rwa[fH]at this
theorem ze (l:List By):bls (l.map mkB)=l:=by
 unfold bls
 rw[List.map_map]
 conv=>rhs;rw[<-List.map_id l]
 apply List.map_congr_left
 intro x _;exact oA x
theorem fi (l:By):(mkB l).size=l.length:=by simp[mkB,ByteArray.size]
end Go.Proofs.YtepcpgdfbaklfaaGreatDoor
