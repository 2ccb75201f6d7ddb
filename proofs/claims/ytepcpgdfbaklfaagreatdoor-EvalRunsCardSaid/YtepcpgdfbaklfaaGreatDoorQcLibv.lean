/- The library's contracts that lie proved yG any program, at this seat's numbers: one renaming, and that this program bears the bodies and the types. Written by mklib.py. No condition. -/
import Derived.Shelf.Strings.BuilderK
import Derived.Shelf.Strings.Shaped
import Derived.Shelf.Small.Strs
import Derived.Shelf.Unicode.ValidAny
import Derived.Test.YtepcpgdfbaklfaaGreatDoorProg
import Derived.Test.YtepcpgdfbaklfaaGreatDoorQcLib
import Derived.Test.YtepcpgdfbaklfaaGreatDoorQcMath
import Derived.Test.YtepcpgdfbaklfaaGreatDoorQcTp0
set_option maxHeartbeats 2000000
namespace Go.Proofs.YtepcpgdfbaklfaaGreatDoor
open Go.Shelf
def Lv.ren:Ren:=⟨fun | 196=>113 | 259=>143 | n=>n,fun | 0=>0 | 3=>3 | 4=>4 | 5=>5 | 9=>9 | 12=>12 | 37=>134 | 46=>195 | 53=>27 | 72=>136 | 119=>191 | 138=>193 | 139=>194 | n=>n,fun | 3=>0 | 4=>1 | n=>n⟩
theorem Lv.n196:Go.Proofs.Lays.n196 Tryz.prog Lv.ren:={
 mixed:=by kernel_rfl
 f196:=Tryz.func113.trans (congrArg some (by kernel_rfl))
 f259:=Tryz.func143.trans (congrArg some (by kernel_rfl))
 t0:=Tryz.underlying0
 a0:=Tryz.isAgg0
 z0:=Tryz.sizeOf0
 v0:=Tryz.zeroValue0
 t3:=Tryz.underlying3
 a3:=Tryz.isAgg3
 z3:=Tryz.sizeOf3
 v3:=Tryz.zeroValue3
 t4:=Tryz.underlying4
 a4:=Tryz.isAgg4
 z4:=Tryz.sizeOf4
 v4:=Tryz.zeroValue4
 t5:=Tryz.underlying5
 a5:=Tryz.isAgg5
 z5:=Tryz.sizeOf5
 v5:=Tryz.zeroValue5
 t9:=Tryz.underlying9
 a9:=Tryz.isAgg9
 z9:=Tryz.sizeOf9
 v9:=Tryz.zeroValue9
 t12:=Tryz.underlying12
 a12:=Tryz.isAgg12
 z12:=Tryz.sizeOf12
 v12:=Tryz.zeroValue12
 t46:=Tryz.underlying195
 a46:=Tryz.isAgg195
 z46:=Tryz.sizeOf195
 v46:=Tryz.zeroValue195
 t53:=Tryz.underlying27
 a53:=Tryz.isAgg27
 z53:=Tryz.sizeOf27
 v53:=Tryz.zeroValue27
 t119:=Tryz.underlying191
 a119:=Tryz.isAgg191
 z119:=Tryz.sizeOf191
 t138:=Tryz.underlying193
 a138:=Tryz.isAgg193
 z138:=Tryz.sizeOf193
 v138:=Tryz.zeroValue193
 t139:=Tryz.underlying194
 a139:=Tryz.isAgg194
 z139:=Tryz.sizeOf194
 v139:=Tryz.zeroValue194
 g3:=by kernel_rfl
 g4:=by kernel_rfl}
theorem Lv.extra:Builder.Extra Tryz.prog Lv.ren:={
 sizeBuilder:=by kernel_rfl
 liesBuilder:=by kernel_rfl
 t5:=Tryz.underlying5
 a5:=Tryz.isAgg5
 z5:=Tryz.sizeOf5
 v5:=Tryz.zeroValue5
 infoByte:=by kernel_rfl
 cellsByte:=by kernel_rfl
 sizeByte:=by kernel_rfl
 neB5:=by decide}
set_option linter.unusedVariables false
open Go.RowKit Go.Shelf Go.Lib
theorem kJ (s:ByteArray)(A:s.size<=1099511627776)(w:World)(o:rK w):
 Calls Tryz.prog 72 #[.string s] w λe w'=>e=.returned (.bool (validD s.data.toList))/\Below w.heap.size w w':=by
 have H:Hid (∀w,rK w->Calls Tryz.prog 113 #[.string s] w λe w'=>e=.returned (.bool (validD s.data.toList))/\Below w.heap.size w w'):=λw h=>Any.utf8_ValidString Lv.n196 s w (by omega) h
 have r:=AF o
 clear o
 generalize validD s.data.toList=v at*
 go_enter Tryz.func72,Tryz.ntmps72
 go_wp2_with fail
 refine(H.out _ r.out).mono ?_
 rintro e w1 ⟨rfl,m⟩
 go_wp2
 go_ret
 exact⟨rfl,m⟩
open Go.RowKit Go.Shelf
def kwB:List ByteArray:=[⟨#[105,102]⟩,⟨#[101,108,115,101]⟩,⟨#[101,110,100]⟩,⟨#[114,97,110,103,101]⟩,⟨#[99,97,108,108]⟩,⟨#[100,101,102,105,110,101]⟩]
theorem yP (s:ByteArray):Lib.containsS (kwB.take 6) s=kws.contains (bl s):=pH _ _
theorem uV (w:World):∀j,j<kwB.length->(w.alloc (.cells #[.string ⟨#[105,102]⟩,.string ⟨#[101,108,115,101]⟩,.string ⟨#[101,110,100]⟩,.string ⟨#[114,97,110,103,101]⟩,.string ⟨#[99,97,108,108]⟩,.string ⟨#[100,101,102,105,110,101]⟩] 9)).cell? ⟨w.heap.size,0+j,none⟩=some (.string (kwB.getD j ByteArray.empty)):=by
 intro j o
 rw[dW (heap_alloc_new w _)]
 have m:j<6:=o
 rcases(by omega:j=0\/j=1\/j=2\/j=3\/j=4\/j=5)with rfl | rfl | rfl | rfl | rfl | rfl <;> rfl
theorem ls (s:ByteArray)(w:World):
 Calls Tryz.prog 66 #[.slice (some ⟨w.heap.size,0,none⟩) 6 6,.string s] (w.alloc (.cells #[.string ⟨#[105,102]⟩,.string ⟨#[101,108,115,101]⟩,.string ⟨#[101,110,100]⟩,.string ⟨#[114,97,110,103,101]⟩,.string ⟨#[99,97,108,108]⟩,.string ⟨#[100,101,102,105,110,101]⟩] 9)) λe w'=>e=.returned (.bool (kws.contains (bl s)))/\Below w.heap.size w w':=by
 refine(Tryz.slices_Contains_string w.heap.size 0 6 6 kwB s _ (by decide) (by decide) (uV w)).mono ?_
 rintro e w' ⟨rfl,rfl⟩
 rw[yP]
 exact⟨rfl,(AH _ w).alloc (AG _) _⟩
theorem iy (s:ByteArray)(I:s.size<=140737488351232)(w:World):
 Calls Tryz.prog 39 #[.string s] w λe w'=>e=.returned (.bool (eK (bl s)))/\Below w.heap.size w w':=by
 have E:=AF (λw=>kV s I w)
 have J:=AF (λw=>ls s w)
 cases o:jG (bl s)with
 | false=>
   have G:Hid (eK (bl s)=false):=by unfold Hid eK;rw[o];rfl
   rw[o]at E
   clear o
   go_enter Tryz.func39,Tryz.ntmps39
   go_wp2_with fail
   refine(E.out _).mono ?_
   rintro e w1 ⟨rfl,m⟩
   have r:=AF m
   clear m
   go_wp2_with fail
   go_ret
   exact⟨dZ G.out.symm,r.out⟩
 | true=>
   have G:Hid (eK (bl s)= !kws.contains (bl s)):=by unfold Hid eK;rw[o];rfl
   rw[o]at E
   generalize kws.contains (bl s)=v at*
   clear o
   go_enter Tryz.func39,Tryz.ntmps39
   go_wp2_with fail
   refine(E.out _).mono ?_
   rintro e w1 ⟨rfl,m⟩
   have r:=AF m
   clear m
   go_wp2_with fail
   refine(J.out _).mono ?_
   rintro e w2 ⟨rfl,A⟩
   replace r:=AF (r.out.trans (A.mono r.out.size))
   clear A
   go_wp2_with fail
   go_ret
   exact⟨dZ G.out.symm,r.out⟩
theorem rS (s:ByteArray)(o:s.size<=16777216)(w:World)(m:Gd w):
 Calls Tryz.prog 72 #[.string s] w λe w'=>e=.returned (.bool (Lib.validD (bl s)))/\Below w.heap.size w w':=kJ s (by omega) w m.2
theorem lw (s:ByteArray)(A:s.size<=16777216)(w:World)(r:Gd w):
 Calls Tryz.prog 104 #[.string s,.string ⟨#[123,123]⟩] w λe w'=>e=.returned (.bool (gq 123 (bl s)).isSome)/\w=w':=by
 obtain⟨m,o⟩:=r.1
 refine(Tryz.strings_Contains s ⟨#[123,123]⟩ m w (by omega) o).mono ?_
 rintro e w' ⟨rfl,rfl⟩
 exact⟨dZ (mU 123 (bl s)),rfl⟩
theorem mx (s:ByteArray)(m:s.size<=16777216)(w:World):
 Calls Tryz.prog 79 #[.string s,.string ⟨#[123]⟩] w λe w'=>e=.returned (.bool (decide ((bl s).getLast? =some 123)))/\w=w':=by
 refine(Tryz.strings_HasSuffix s ⟨#[123]⟩ w (by omega)).mono ?_
 rintro e w' ⟨rfl,rfl⟩
 exact⟨dZ (wG 123 (bl s)),rfl⟩
theorem nR (s:ByteArray)(m:Bool)(V:s.size<=16777216)(w:World)(hg:Gd w):
 Calls Tryz.prog 64 #[.string s,.bool m] w λe w'=>e=.returned (.bool (jZ (bl s) m))/\Below w.heap.size w w':=by
 have A:=AF hg
 have J:=AF (λw h=>rS s V w h)
 have N:=AF (λw h=>lw s V w h)
 have U:=AF (λw=>mx s V w)
 clear hg
 by_cases Z:s.size=0
 · obtain rfl:=ia s Z
   have E:Hid (jZ (bl ⟨#[]⟩) m=false):=rfl
   clear Z V J N U A
   go_enter Tryz.func64,Tryz.ntmps64
   go_wp2_with fail
   go_ret
   exact⟨dZ E.out.symm,AH _ _⟩
 have aa:=iN s (by omega)
 have K:(bl s).length=s.size:=by simp[bl]
 have R:(bl s).isEmpty=false:=by cases hx:bl s with | nil=>rw[hx]at K;simp at K;omega | cons c r=>rfl
 have O:Hid (jZ (bl s) m=(Lib.validD (bl s)&&(gq 123 (bl s)).isNone&&(m||decide ((bl s).getLast?≠some 123)))):=by unfold Hid jZ;rw[R];rfl
 clear Z K R
 cases G:Lib.validD (bl s)with
 | false=>
   have E:Hid (jZ (bl s) m=false):=by unfold Hid;rw[O.out,G];rfl
   rw[G]at J
   clear G N U O
   go_enter Tryz.func64,Tryz.ntmps64
   go_wp2_with fail
   refine(J.out _ A.out).mono ?_
   rintro e w1 ⟨rfl,o⟩
   have M:=AF o
   clear o
   go_wp2_with fail
   go_ret
   exact⟨dZ E.out.symm,M.out⟩
 | true=>
   cases I:(gq 123 (bl s)).isSome with
   | true=>
     have E:Hid (jZ (bl s) m=false):=by
      unfold Hid;rw[O.out]
      cases Y:gq 123 (bl s)with
      | none=>rw[Y]at I;cases I
      | some q=>simp
     rw[G]at J
     rw[I]at N
     clear G I U O
     go_enter Tryz.func64,Tryz.ntmps64
     go_wp2_with fail
     refine(J.out _ A.out).mono ?_
     rintro e w1 ⟨rfl,o⟩
     have M:=AF o
     replace A:=AF (A.out.below o)
     clear o
     go_wp2_with fail
     refine(N.out _ A.out).mono ?_
     rintro e w' ⟨rfl,rfl⟩
     go_wp2_with fail
     go_ret
     exact⟨dZ E.out.symm,M.out⟩
   | false=>
     have W:Hid (jZ (bl s) m=(m|| !decide ((bl s).getLast? =some 123))):=by
      unfold Hid;rw[O.out,G]
      cases Y:gq 123 (bl s)with
      | none=>simp
      | some q=>rw[Y]at I;cases I
     rw[G]at J
     rw[I]at N
     clear G I O
     cases m with
     | true=>
       have E:Hid (jZ (bl s) true=true):=by unfold Hid;rw[W.out];rfl
       clear W U
       go_enter Tryz.func64,Tryz.ntmps64
       go_wp2_with fail
       refine(J.out _ A.out).mono ?_
       rintro e w1 ⟨rfl,o⟩
       have M:=AF o
       replace A:=AF (A.out.below o)
       clear o
       go_wp2_with fail
       refine(N.out _ A.out).mono ?_
       rintro e w' ⟨rfl,rfl⟩
       go_wp2_with fail
       go_ret
       exact⟨dZ E.out.symm,M.out⟩
     | false=>
       have E:Hid (jZ (bl s) false= !decide ((bl s).getLast? =some 123)):=by unfold Hid;rw[W.out];rfl
       generalize decide ((bl s).getLast? =some 123)=v at*
       clear W
       go_enter Tryz.func64,Tryz.ntmps64
       go_wp2_with fail
       refine(J.out _ A.out).mono ?_
       rintro e w1 ⟨rfl,o⟩
       have M:=AF o
       replace A:=AF (A.out.below o)
       clear o
       go_wp2_with fail
       refine(N.out _ A.out).mono ?_
       rintro e w' ⟨rfl,rfl⟩
       go_wp2_with fail
       refine(U.out _).mono ?_
       rintro e w' ⟨rfl,rfl⟩
       go_wp2_with fail
       go_ret
       exact⟨dZ E.out.symm,M.out⟩
theorem vJ {a:ByteArray}{b:By}(h:bl a=b):Ending.returned (.string a)=.returned (.string ⟨b.toArray⟩):=by
 rw[<-h];simp[bl]
theorem tp (l:List ByteArray)(k:Nat)(s:ByteArray)(h:l[k]? =some s):li (bls (l.drop k))=46::bl s++li (bls (l.drop (k+1))):=by
 have m:=(List.getElem?_eq_some_iff.1 h).1
 rw[List.drop_eq_getElem_cons m]
 have:l[k]=s:=(List.getElem?_eq_some_iff.1 h).2
 rw[this];rfl
theorem qY (ok:Nat->Prop)(root:Bool)(l:List ByteArray)(U:(AJ root (bls l)).length<=16777216)(v:Value)(w:World)(h:Strs ok w v l)(N:∀b,ok b->b<w.heap.size):
 Calls Tryz.prog 112 #[.agg #[.bool root,v]] w λe w'=>e=.returned (.string ⟨(AJ root (bls l)).toArray⟩)/\Below w.heap.size w w':=by
 obtain⟨a,c,rfl,h1,h2,h3⟩:=h
 have af:c<=9223372036854775807:=by unfold maxLen at h2;exact h2
 have K:=AF ((AH w.heap.size w).alloc (AG _) (.cells #[.bool root,.slice a l.length c] 54))
 by_cases R:l=[]/\root=false
 · obtain⟨rfl,rfl⟩:=R
   have HE:Hid (bl ⟨#[46]⟩=AJ false (bls [])):=rfl
   clear h3 U N h1 h2
   go_enter Tryz.func112,Tryz.ntmps112
   go_wp2_with fail
   go_ret
   exact⟨vJ HE.out,K.out⟩
 have W:Hid (AJ root (bls l)=(if root then[36]else[])++li (bls l)):=by
  unfold Hid AJ
  rw[if_neg]
  rintro⟨e1,e2⟩
  apply R
  refine⟨?_,e2⟩
  cases l with
  | nil=>rfl
  | cons x l=>simp[bls]at e1
 have ae:l.length<=16777216:=by
  rw[W.out]at U
  have:∀l:List ByteArray,l.length<=(li (bls l)).length:=by
   intro l
   induction l with
   | nil=>exact Nat.zero_le _
   | cons x l ih=>simp[bls,li]at ih ⊢;omega
  have:=this l
  simp at U;omega
 obtain⟨T,V⟩:∃T,AJ root (bls l)=T:=⟨_,rfl⟩
 rw[V]at U W
 have ac:=AF V
 have H3:=AF h3
 have HK:=AF N
 have Y:∀m:ByteArray,bl m=(if root then[36]else[])->Hid (bl m++li (bls (l.drop 0))=T):=λm ha=>by unfold Hid;rw[ha,List.drop_zero];exact W.out.symm
 rw[V]
 clear V h3 N W
 have O:∀(t:Bool),(l.length==0)=t->Hid ((((l.length:Nat):Int)==0)=t):=λt ht=>by
  unfold Hid;rw[<-ht,Bool.eq_iff_iff];simp
 cases r:root
 all_goals
  cases Z:(l.length==0)
  all_goals
   try (exfalso;apply R;refine⟨?_,r⟩;simpa using Z;done)
  all_goals
   have ht:=(O _ Z).out
   rw[r]at K Y
   have I:(∀A:ByteArray,A=⟨#[36]⟩\/A=⟨#[]⟩->True):=λ_ _=>trivial
   first
   | replace I:=Y ⟨#[36]⟩ rfl
   | replace I:=Y ⟨#[]⟩ rfl
   clear O R r Z Y ac
   go_enter Tryz.func112,Tryz.ntmps112
   go_wp2_with fail
   generalize ab:World.alloc _ _=W1 at*
   clear ab
   go_loop [3,20] (λv3 v20=>∃(k:Nat) (m:ByteArray),v3=.string m/\v20=.int .i64 k/\k<=l.length/\Hid (bl m++li (bls (l.drop k))=T)) (λ_ i=>l.length - (intOf i).toNat)
   case atStart=>exact⟨0,_,rfl,rfl,Nat.zero_le _,I⟩
   case round=>
    obtain⟨k,m,rfl,rfl,hk,HG⟩:=hrel
    clear I ht
    by_cases G:k<l.length
    · obtain⟨b,o,ha,aa,E⟩:=H3.out (by intro e;rw[e]at G;simp at G)
      obtain⟨s,M⟩:∃s,l[k]? =some s:=⟨_,List.getElem?_eq_getElem G⟩
      have hc:W1.cell? ⟨b,o+k,none⟩=some (.string s):=(K.out.cell (p:=⟨b,o+k,none⟩) (HK.out b aa)).trans (E k s M)
      have ad:(k:Int)<(l.length:Int):=by omega
      have J:Hid (bl (m++(⟨#[46]⟩++s))++li (bls (l.drop (k+1)))=T):=by
       unfold Hid
       rw[<-HG.out,tp l k s M]
       simp[bl]
      have ag:m.size+1+s.size<=16777216:=by
       have:=congrArg List.length J.out
       simp[bl]at this
       omega
      clear E M
      subst ha
      go_wp2_with fail
      go_round
      case rel=>exact⟨k+1,_,rfl,by go_num,G,J⟩
      case measure=>simp[intOf];omega
    · have ah:¬(k:Int)<(l.length:Int):=by omega
      have J:Hid (bl m=T):=by unfold Hid;rw[<-HG.out,List.drop_of_length_le (by omega)];simp[bls,li]
      go_wp2_with fail
      go_ret
      exact⟨vJ J.out,K.out⟩
def hZ (ok:Nat->Prop)(w:World):List Df->Nat->Nat->Prop
 | [],_,_=>True
 | d::r,b,o=>w.cell? ⟨b,o,none⟩=some (.string d.name)/\w.cell? ⟨b,o+1,none⟩=some (.int .i64 d.pos)/\(∃v,w.cell? ⟨b,o+2,none⟩=some v/\d8 ok w v d.kids)/\hZ ok w r b (o+3)
def fU (ok:Nat->Prop)(w:World)(v:Value)(l:List Df):Prop:=
 ∃(a:Option Addr) (c:Nat),v=.slice a l.length c/\l.length<=c/\c<=maxLen/\(l≠[]->∃b o,a=some ⟨b,o,none⟩/\ok b/\hZ ok w l b o)
theorem hZ.kept {ok:Nat->Prop}{w w':World}(A:eL ok w w'):∀(l:List Df) (b o:Nat),ok b->hZ ok w l b o->hZ ok w' l b o:=by
 intro l
 induction l with
 | nil=>intro b o _ _;exact trivial
 | cons d r G=>
   intro b o E I
   obtain⟨c0,c1,⟨v,c2,J⟩,m⟩:=I
   exact⟨(A.cell E _).trans c0,(A.cell E _).trans c1,⟨v,(A.cell E _).trans c2,J.kept A⟩,G b _ E m⟩
theorem hZ.mono {ok ok':Nat->Prop}{w:World}(I:∀b,ok b->ok' b):∀(l:List Df) (b o:Nat),hZ ok w l b o->hZ ok' w l b o:=by
 intro l
 induction l with
 | nil=>intro b o _;exact trivial
 | cons d r A=>
   intro b o E
   obtain⟨c0,c1,⟨v,c2,G⟩,m⟩:=E
   exact⟨c0,c1,⟨v,c2,G.mono I⟩,A b _ m⟩
theorem hZ.at {ok:Nat->Prop}{w:World}:∀(l:List Df) (b o k:Nat) (d:Df),l[k]? =some d->hZ ok w l b o->
 w.cell? ⟨b,o+k*3,none⟩=some (.string d.name)/\w.cell? ⟨b,o+k*3+1,none⟩=some (.int .i64 d.pos)/\∃v,w.cell? ⟨b,o+k*3+2,none⟩=some v/\d8 ok w v d.kids:=by
 intro l
 induction l with
 | nil=>intro b o k d h;simp at h
 | cons G r A=>
   intro b o k d h E
   obtain⟨c0,c1,c2,m⟩:=E
   cases k with
   | zero=>
     simp at h;subst h
     rw[Nat.zero_mul,Nat.add_zero]
     exact⟨c0,c1,c2⟩
   | succ k=>
     have:=A b (o+3) k d (by simpa using h) m
     rw[show o+3+k*3=o+(k+1)*3 by omega]at this
     exact this
theorem fU.kept {ok:Nat->Prop}{w w':World}{v:Value}{l:List Df}(h:fU ok w v l)(E:eL ok w w'):fU ok w' v l:=by
 obtain⟨a,c,r,M,K,J⟩:=h
 refine⟨a,c,r,M,K,λA=> ?_⟩
 obtain⟨b,o,I,m,G⟩:=J A
 exact⟨b,o,I,m,G.kept E _ _ _ m⟩
theorem fU.mono {ok ok':Nat->Prop}{w:World}{v:Value}{l:List Df}(h:fU ok w v l)(m:∀b,ok b->ok' b):fU ok' w v l:=by
 obtain⟨a,c,r,M,K,J⟩:=h
 refine⟨a,c,r,M,K,λA=> ?_⟩
 obtain⟨b,o,I,G,E⟩:=J A
 exact⟨b,o,I,m b G,E.mono m _ _ _⟩
theorem fU.nil (ok:Nat->Prop)(w:World):fU ok w (.slice none 0 0) []:=⟨none,0,rfl,AG _,by decide,λh=>absurd rfl h⟩
theorem lM (x n:ByteArray)(p r:Value)(b o:Nat)(w:World)(A:w.cell? ⟨b,o,none⟩=some (.string n)):
 Calls Tryz.prog 89 #[.agg #[.string x,p,r],.pointer (some ⟨b,o,none⟩)] w λe w'=>e=.returned (.bool (bl x==bl n))/\Below w.heap.size w w':=by
 have m:=ej A
 have E:(w.alloc (.cells #[.string x,p,r] 70)).cell? ⟨b,o,none⟩=some (.string n):=(World.cell?_alloc_old w _ _ (Nat.ne_of_lt m)).trans A
 have G:Hid ((x.toList==n.toList)=(bl x==bl n)):=by unfold Hid bl;rw[ByteArray.toList_eq,ByteArray.toList_eq]
 have I:=AF ((AH w.heap.size w).alloc (AG _) (.cells #[.string x,p,r] 70))
 clear A m
 go_enter Tryz.func89,Tryz.ntmps89
 go_wp2_with fail
 go_ret
 exact⟨dZ G.out,I.out⟩
def jT (n:By):List Df->Nat->Int
 | [],_=> -1
 | d::l,k=>if bl d.name==n then(k:Int)else jT n l (k+1)
theorem ta (n:By)(l:List Df):∀k,decide (0<=jT n l k)=eE l n:=by
 induction l with
 | nil=>intro k;rfl
 | cons d l m=>
   intro k
   unfold jT
   split
   · rename_i h;simp[eE,h]
   · rename_i h;rw[m];simp[eE,h]
theorem nZ (ok:Nat->Prop)(l:List Df)(hl:l.length<=140737488351232)(n:ByteArray)(v:Value)(V U:Nat)(w:World)(h:fU ok w v l)(N:∀b,ok b->b<w.heap.size)(hn:w.cell? ⟨V,U,none⟩=some (.string n)):
 Calls Tryz.prog 127 #[v,.func (.func 89) #[] #[.pointer (some ⟨V,U,none⟩)]] w λe w'=>e=.returned (.int .i64 (jT (bl n) l 0))/\Below w.heap.size w w':=by
 obtain⟨a,c,rfl,h1,h2,h3⟩:=h
 have ee:∀args w,(callFunc 89 args).run Tryz.prog w=.ok (.enter 89 args) w:=enters_of Tryz.func89 (by kernel_rfl) rfl
 have H3:=AF h3
 have Y:=AF N
 have HN:=AF hn
 clear h3 N hn
 go_enter Tryz.func127,Tryz.ntmps127
 go_wp2_with fail
 go_loopw [8] (λi wr=>∃k:Nat,i=.int .i64 k/\k<=l.length/\Below w.heap.size w wr/\Hid (jT (bl n) (l.drop k) k=jT (bl n) l 0)) (λi _=>l.length - (intOf i).toNat)
 case atStart=>exact⟨0,rfl,Nat.zero_le _,AH _ _,rfl⟩
 case round=>
  obtain⟨k,rfl,hk,J,Z⟩:=hrel
  by_cases m:k<l.length
  · obtain⟨b,o,ha,K,I⟩:=H3.out (by intro e;rw[e]at m;simp at m)
    obtain⟨d,G⟩:∃d,l[k]? =some d:=⟨_,List.getElem?_eq_getElem m⟩
    obtain⟨d0,d1,vk,d2,-⟩:=I.at l b o k d G
    have c0:=(J.cell (p:=⟨b,o+k*3,none⟩) (Y.out b K)).trans d0
    have c1:=(J.cell (p:=⟨b,o+k*3+1,none⟩) (Y.out b K)).trans d1
    have c2:=(J.cell (p:=⟨b,o+k*3+2,none⟩) (Y.out b K)).trans d2
    have W:=AF (λw h=>lM d.name n (.int .i64 d.pos) vk V U w h)
    have O:=(J.cell (p:=⟨V,U,none⟩) (ej HN.out)).trans HN.out
    have R:=AF O
    have aa:(k:Int)<(l.length:Int):=by omega
    have E:=AF J
    have HD:Hid (l.drop k=d::l.drop (k+1)):=by
     unfold Hid
     rw[List.drop_eq_getElem_cons m]
     rw[List.getElem?_eq_getElem m]at G
     injection G with e;rw[e]
    clear I G J O d0 d1 d2
    subst ha
    cases M:(bl d.name==bl n)with
    | false=>
      rw[M]at W
      have A:Hid (jT (bl n) (l.drop (k+1)) (k+1)=jT (bl n) l 0):=by unfold Hid;rw[<-Z.out,HD.out,jT,if_neg (by simp[M])]
      clear M
      go_wp2_with fail
      refine(W.out _ R.out).mono ?_
      rintro e w1 ⟨rfl,r⟩
      replace E:=AF (E.out.trans (r.mono E.out.size))
      clear r
      go_wp2_with fail
      go_roundw
      case rel=>exact⟨k+1,by go_num,m,E.out,A⟩
      case measure=>simp[intOf];omega
    | true=>
      rw[M]at W
      have A:Hid ((k:Int)=jT (bl n) l 0):=by unfold Hid;rw[<-Z.out,HD.out,jT,if_pos M]
      clear M
      go_wp2_with fail
      refine(W.out _ R.out).mono ?_
      rintro e w1 ⟨rfl,r⟩
      replace E:=AF (E.out.trans (r.mono E.out.size))
      clear r
      go_wp2_with fail
      go_ret
      exact⟨jN A.out,E.out⟩
  · have ab:¬(k:Int)<(l.length:Int):=by omega
    have A:Hid (jT (bl n) l 0= -1):=by unfold Hid;rw[<-Z.out,List.drop_of_length_le (by omega)];rfl
    have E:=AF J
    clear J
    go_wp2_with fail
    go_ret
    exact⟨jN A.out.symm,E.out⟩
theorem lu (ok:Nat->Prop)(l:List Df)(I:l.length<=140737488351232)(n:ByteArray)(v:Value)(E o:Nat)(w:World)(h:fU ok w v l)(m:∀b,ok b->b<w.heap.size)(G:w.cell? ⟨E,o,none⟩=some (.string n)):
 Calls Tryz.prog 88 #[v,.func (.func 89) #[] #[.pointer (some ⟨E,o,none⟩)]] w λe w'=>e=.returned (.bool (eE l (bl n)))/\Below w.heap.size w w':=by
 have J:=AF (nZ ok l I n v E o w h m G)
 have K:=AF (ta (bl n) l 0)
 generalize jT (bl n) l 0=r at*
 clear h m I G
 go_enter Tryz.func88,Tryz.ntmps88
 go_wp2_with fail
 refine J.out.mono ?_
 rintro e w1 ⟨rfl,A⟩
 go_wp2_with fail
 go_ret
 exact⟨dZ K.out,A⟩
theorem gm (ok:Nat->Prop)(l:List Df)(J:l.length<=140737488351232)(n:ByteArray)(v:Value)(w:World)(h:fU ok w v l)(m:∀b,ok b->b<w.heap.size):
 Calls Tryz.prog 48 #[v,.string n] w λe w'=>e=.returned (.bool (eE l (bl n)))/\Below w.heap.size w w':=by
 have E:=(AH w.heap.size w).alloc (AG _) (.cells #[.string n] 9)
 have I:(w.alloc (.cells #[.string n] 9)).cell? ⟨w.heap.size,0,none⟩=some (.string n):=by rw[dW (heap_alloc_new w _)];rfl
 have M:=AF (lu ok l J n v w.heap.size 0 _ (h.kept (λb o=>E.block b (m b o))) (λb o=>AI (m b o) E.size) I)
 have G:=AF E
 have K:∀(fn:Fn) (first cap:Array Value) (w:World),(Instr.makeFunc fn first cap).run Tryz.prog w=.ok (.func fn first cap) w:=λ_ _ _ _=>rfl
 generalize eE l (bl n)=r at*
 clear h m J I E
 go_enter Tryz.func48,Tryz.ntmps48
 go_wp2_with fail
 refine M.out.mono ?_
 rintro e w1 ⟨rfl,A⟩
 replace G:=AF (G.out.trans (A.mono G.out.size))
 clear A
 go_wp2_with fail
 go_ret
 exact⟨rfl,G.out⟩
attribute [local go_sem ↓] Go.wp_at_zero Go.wp_at_succ
def kU (o:Value)(many deep:Int)(tw m:Bool):Array Value:=#[o,.int .i64 many,.int .i64 deep,.bool tw,.bool m]
def Lk (bx:Nat)(o:Value)(many deep:Int)(tw m:Bool)(w:World):Prop:=w.heap[bx]? =some (.cells (kU o many deep tw m) 87 (0,0))
structure Lk.Cs (bx:Nat)(dv:Value)(many deep:Int)(tw no:Bool)(w:World):Prop where
 c0:w.cell? ⟨bx,0,none⟩=some dv
 c1:w.cell? ⟨bx,1,none⟩=some (.int .i64 many)
 c2:w.cell? ⟨bx,2,none⟩=some (.int .i64 deep)
 c3:w.cell? ⟨bx,3,none⟩=some (.bool tw)
 c4:w.cell? ⟨bx,4,none⟩=some (.bool no)
 fz:∀j,w.frozen? ⟨bx,j,none⟩=false
theorem Lk.cs {bx:Nat}{o:Value}{many deep:Int}{tw m:Bool}{w:World}(h:Lk bx o many deep tw m w):Lk.Cs bx o many deep tw m w:=
 ⟨by rw[dW h];rfl,by rw[dW h];rfl,by rw[dW h];rfl,by rw[dW h];rfl,by rw[dW h];rfl,dY h⟩
theorem Lk.lt {bx:Nat}{o:Value}{many deep:Int}{tw m:Bool}{w:World}(h:Lk bx o many deep tw m w):bx<w.heap.size:=dX h
theorem Lk.set1 {bx:Nat}{o:Value}{many deep:Int}{tw m:Bool}{w:World}(h:Lk bx o many deep tw m w)(x:Int):Lk bx o x deep tw m (w.setCell ⟨bx,1,none⟩ (.int .i64 x)):=by
 unfold Lk kU at h ⊢
 simp[World.setCell,Array.getElem?_modify,h]
theorem Lk.set2 {bx:Nat}{o:Value}{many deep:Int}{tw m:Bool}{w:World}(h:Lk bx o many deep tw m w)(x:Int):Lk bx o many x tw m (w.setCell ⟨bx,2,none⟩ (.int .i64 x)):=by
 unfold Lk kU at h ⊢
 simp[World.setCell,Array.getElem?_modify,h]
theorem Lk.set3 {bx:Nat}{o:Value}{many deep:Int}{tw m:Bool}{w:World}(h:Lk bx o many deep tw m w)(x:Bool):Lk bx o many deep x m (w.setCell ⟨bx,3,none⟩ (.bool x)):=by
 unfold Lk kU at h ⊢
 simp[World.setCell,Array.getElem?_modify,h]
theorem Lk.set4 {bx:Nat}{m:Value}{many deep:Int}{tw o:Bool}{w:World}(h:Lk bx m many deep tw o w)(x:Bool):Lk bx m many deep tw x (w.setCell ⟨bx,4,none⟩ (.bool x)):=by
 unfold Lk kU at h ⊢
 simp[World.setCell,Array.getElem?_modify,h]
theorem Lk.kept {bx:Nat}{o:Value}{many deep:Int}{tw m:Bool}{w w':World}(h:Lk bx o many deep tw m w)(r:w'.heap[bx]? =w.heap[bx]?):Lk bx o many deep tw m w':=r.trans h
theorem Lk.below {bx:Nat}{o:Value}{many deep:Int}{tw m:Bool}{w w':World}(h:Lk bx o many deep tw m w)(r:Below w.heap.size w w'):Lk bx o many deep tw m w':=hk_of h r
where hk_of {bx:Nat} {o:Value} {many deep:Int} {tw m:Bool} {w w':World} (h:Lk bx o many deep tw m w) (r:Below w.heap.size w w'):Lk bx o many deep tw m w':=(r.block bx h.lt).trans h
def Gr (bx:Nat)(w w':World):Prop:=w.grownBy w' (some bx)
theorem Gr.refl (bx:Nat)(w:World):Gr bx w w:=World.grownBy.refl w _
theorem Gr.trans {bx:Nat}{a b c:World}(h:Gr bx a b)(k:Gr bx b c):Gr bx a c:=
 ⟨k.os.trans h.os,k.tape.trans h.tape,k.output.trans h.output,Nat.le_trans h.size k.size,λi o m=>(k.block i (AI o h.size) m).trans (h.block i o m)⟩
theorem Gr.set {bx:Nat}(w:World)(j:Nat)(v:Value):Gr bx w (w.setCell ⟨bx,j,none⟩ v):=by
 refine⟨rfl,rfl,rfl,by simp[World.setCell],λi o m=> ?_⟩
 exact Below.heap_setCell _ _ _ _ (λe=>m (by rw[e]))
theorem Gr.alloc {bx:Nat}(w:World)(o:Obj):Gr bx w (w.alloc o):=World.grownBy_alloc w o _
theorem Gr.drew {bx:Nat}(w:World):Gr bx w w.drew:=⟨rfl,rfl,rfl,AG _,λ_ _ _=>rfl⟩
theorem Gr.below {bx:Nat}{w w':World}(h:Below w.heap.size w w'):Gr bx w w':=⟨h.os,h.tape,h.output,h.size,λk m _=>h.block k m⟩
theorem Gr.kept {bx:Nat}{w w':World}(h:Gr bx w w'):eL (λb=>b<w.heap.size/\b≠bx) w w':=λb m=>h.block b m.1 (λe=>m.2 (by injection e))
theorem Gr.to_below {bx B:Nat}{w w':World}(h:Gr bx w w')(hB:B<=w.heap.size)(hx:B<=bx):Below B w w':=⟨h.os,h.tape,h.output,h.size,λk m=>h.block k (AI m hB) (λe=>by cases e;omega)⟩
theorem eD (t:Pt):t.len<=t.cnt:=by
 induction t with
 | nil=>exact AG _
 | cons h k e r _ _ m=>simp[Pt.len,Pt.cnt];omega
theorem fY (t:Pt):t.deep<=t.cnt:=by
 induction t with
 | nil=>exact AG _
 | cons h k e r m o A=>
   simp only[Pt.deep,Pt.cnt]
   split <;> omega
def Hd.sm (h:Hd):Prop:=h.kind<256/\h.text.size<=16777216/\h.name.size<=16777216/\h.names.length<=16777216/\∀n∈h.names,n.size<=16777216
def Pt.sm:Pt->Prop
 | .nil=>True
 | .cons h k e r=>h.sm/\k.sm/\e.sm/\r.sm
theorem te (s:ByteArray):(bl s).isEmpty=true↔s.toList=[]:=by
 unfold bl;rw[ByteArray.toList_eq];simp
theorem nl (k e:Pt):(k.isNil=true/\e.isNil=true)↔((k.len:Int)+(e.len:Int)=0):=by
 have h:∀t:Pt,t.isNil=true↔t.len=0:=λt=>by cases t <;> simp[Pt.isNil,Pt.len]
 rw[h,h];omega
theorem hd1 (h:Hd)(k e:Pt)(m:Bool)(r:h.kind=1):gj h k e m=true↔(jZ (bl h.text) m=true/\h.name.toList=[]/\h.root=false/\((h.names.length:Nat):Int)=0/\((k.len:Int)+(e.len:Int)=0)):=by
 unfold gj
 rw[if_pos r,←te,←nl]
 have o:((h.names.length:Nat):Int)=0↔h.names.isEmpty=true:=by cases h.names <;> simp;omega
 rw[o]
 simp only[Bool.and_eq_true,Bool.not_eq_true']
 constructor
 · rintro⟨⟨⟨⟨⟨a,b⟩,c⟩,d⟩,f⟩,g⟩;exact⟨a,d,b,c,f,g⟩
 · rintro⟨a,d,b,c,f,g⟩;exact⟨⟨⟨⟨⟨a,b⟩,c⟩,d⟩,f⟩,g⟩
theorem hd2 (h:Hd)(k e:Pt)(m:Bool)(o:h.kind=2):gj h k e m=true↔(ex (bls h.names)=true/\h.text.toList=[]/\h.name.toList=[]/\((k.len:Int)+(e.len:Int)=0)):=by
 unfold gj
 rw[if_neg (by omega),if_pos o,←te,←te,←nl]
 simp only[Bool.and_eq_true]
 constructor
 · rintro⟨⟨⟨⟨a,b⟩,c⟩,d⟩,f⟩;exact⟨a,b,c,d,f⟩
 · rintro⟨a,b,c,d,f⟩;exact⟨⟨⟨⟨a,b⟩,c⟩,d⟩,f⟩
theorem xX (h:Hd)(k e:Pt)(m:Bool)(o:h.kind=3\/h.kind=4):gj h k e m=true↔(ex (bls h.names)=true/\h.text.toList=[]/\h.name.toList=[]):=by
 unfold gj
 rw[if_neg (by omega),if_neg (by omega),if_pos o,←te,←te]
 simp only[Bool.and_eq_true]
 constructor
 · rintro⟨⟨a,b⟩,c⟩;exact⟨a,b,c⟩
 · rintro⟨a,b,c⟩;exact⟨⟨a,b⟩,c⟩
theorem hd5 (h:Hd)(k e:Pt)(m:Bool)(o:h.kind=5):gj h k e m=true↔(ex (bls h.names)=true/\eK (bl h.name)=true/\h.text.toList=[]/\((k.len:Int)+(e.len:Int)=0)):=by
 unfold gj
 rw[if_neg (by omega),if_neg (by omega),if_neg (by omega),if_pos o,←te,←nl]
 simp only[Bool.and_eq_true]
 constructor
 · rintro⟨⟨⟨⟨a,b⟩,c⟩,d⟩,f⟩;exact⟨a,c,b,d,f⟩
 · rintro⟨a,c,b,d,f⟩;exact⟨⟨⟨⟨a,b⟩,c⟩,d⟩,f⟩
theorem hd0 (h:Hd)(k e:Pt)(m:Bool)(o:h.kind≠1/\h.kind≠2/\h.kind≠3/\h.kind≠4/\h.kind≠5):gj h k e m=false:=by
 unfold gj
 rw[if_neg o.1,if_neg o.2.1,if_neg (by omega),if_neg o.2.2.2.2]
def vD (e at_:Int):Value:=.iface 84 (.agg #[.int .i64 e,.int .i64 at_])
def qI (bx:Nat)(m:Value)(M D:Nat)(tw N F:Bool)(w:World)(e:Ending)(w':World):Prop:=
 Gr bx w w'/\((F=true/\e=.returned (.tuple #[])/\Lk bx m M D tw N w')\/(F=false/\e=.panicked [{v:=vD 190 0,recovered:=false}]))
theorem Lk.other {bx:Nat}{o:Value}{many deep:Int}{tw m:Bool}{w:World}(h:Lk bx o many deep tw m w){q:Nat}(r:q≠bx)(j:Nat)(v:Value):Lk bx o many deep tw m (w.setCell ⟨q,j,none⟩ v):=
 h.kept (Below.heap_setCell _ _ _ _ (λe=>r e.symm))
theorem Gr.set_new {bx:Nat}{w w':World}(h:Gr bx w w'){q:Nat}(r:w.heap.size<=q)(j:Nat)(v:Value):Gr bx w (w'.setCell ⟨q,j,none⟩ v):=
 ⟨h.os,h.tape,h.output,by rw[show(w'.setCell ⟨q,j,none⟩ v).heap.size=w'.heap.size by simp[World.setCell]];exact h.size,λi o m=>(Below.heap_setCell _ _ _ _ (λe=>by have A:i=q:=e;omega)).trans (h.block i o m)⟩
theorem eC {w w1:World}{x y:Obj}(h:Below ((w.alloc x).alloc y).heap.size ((w.alloc x).alloc y) w1):w1.heap[w.heap.size]? =some x/\w1.heap[w.heap.size+1]? =some y/\w.heap.size+1<w1.heap.size:=by
 have r:((w.alloc x).alloc y).heap.size=w.heap.size+1+1:=by simp
 have o:((w.alloc x).alloc y).heap[w.heap.size]? =some x:=by
  rw[Below.heap_alloc _ _ _ (by simp)];exact heap_alloc_new w x
 have m:((w.alloc x).alloc y).heap[w.heap.size+1]? =some y:=by
  have:=heap_alloc_new (w.alloc x) y
  rwa[show(w.alloc x).heap.size=w.heap.size+1 by simp]at this
 exact⟨(h.block _ (by omega)).trans o,(h.block _ (by omega)).trans m,by have:=h.size;omega⟩
def eo (h:Hd)(m o r:Value):Array Value:=#[.int .u8 (h.kind:Nat),.int .i64 h.pos,.string h.text,.bool h.root,m,.string h.name,o,r]
def zi (h:Hd)(k e:Pt):Array Value:=#[.string h.text,.string h.name,.bool h.root,.int .i64 (h.names.length:Nat),.int .i64 ((k.len:Int)+(e.len:Int))]
structure Two (P:Nat)(h:Hd)(vn vk ve:Value)(k e:Pt)(w:World):Prop where
 p:w.heap[P]? =some (.cells (eo h vn vk ve) 56 (0,0))
 q:w.heap[P+1]? =some (.cells (zi h k e) 129 (0,0))
theorem Two.gr {P bx:Nat}{h:Hd}{m o r:Value}{k e:Pt}{w w':World}(t:Two P h m o r k e w)(g:Gr bx w w')(E:P≠bx)(A:P+1≠bx):Two P h m o r k e w':=
 ⟨(g.block P (dX t.p) (λe=>E (by injection e))).trans t.p,(g.block (P+1) (dX t.q) (λe=>A (by injection e))).trans t.q⟩
structure Two.Cs (P:Nat)(h:Hd)(vn vk ve:Value)(k e:Pt)(w:World):Prop where
 p0:w.cell? ⟨P,0,none⟩=some (.int .u8 (h.kind:Nat))
 p2:w.cell? ⟨P,2,none⟩=some (.string h.text)
 p5:w.cell? ⟨P,5,none⟩=some (.string h.name)
 p6:w.cell? ⟨P,6,none⟩=some vk
 p7:w.cell? ⟨P,7,none⟩=some ve
 q0:w.cell? ⟨P+1,0,none⟩=some (.string h.text)
 q1:w.cell? ⟨P+1,1,none⟩=some (.string h.name)
 q2:w.cell? ⟨P+1,2,none⟩=some (.bool h.root)
 q3:w.cell? ⟨P+1,3,none⟩=some (.int .i64 (h.names.length:Nat))
 q4:w.cell? ⟨P+1,4,none⟩=some (.int .i64 ((k.len:Int)+(e.len:Int)))
 fz:∀j,w.frozen? ⟨P+1,j,none⟩=false
theorem Two.cs {P:Nat}{h:Hd}{m o r:Value}{k e:Pt}{w:World}(t:Two P h m o r k e w):Two.Cs P h m o r k e w:=
 ⟨by rw[dW t.p];rfl,by rw[dW t.p];rfl,by rw[dW t.p];rfl,by rw[dW t.p];rfl,by rw[dW t.p];rfl,
  by rw[dW t.q];rfl,by rw[dW t.q];rfl,by rw[dW t.q];rfl,by rw[dW t.q];rfl,by rw[dW t.q];rfl,dY t.q⟩
theorem Gr.keptB {bx B:Nat}{w w':World}(h:Gr bx w w')(hB:B<=bx)(hw:bx<w.heap.size):eL (·<B) w w':=λb o=>by
 have m:b<B:=o
 exact h.block b (by omega) (λe=>by injection e;omega)
def GlB (B:Nat):Prop:=2<B/\0<B/\1<B
theorem Gd.glB {w:World}(h:Gd w):GlB w.heap.size:=⟨h.1.lt,h.2.lt.1,h.2.lt.2⟩
theorem Gd.belowB {w w':World}{B:Nat}(h:Gd w)(o:GlB B)(r:Below B w w'):Gd w':=by
 obtain⟨m,A⟩:=h.1
 exact⟨⟨m,(r.cell (p:=⟨2,0,none⟩) o.1).trans A⟩,h.2.kept (r.block _ o.2.1) (r.block _ o.2.2)⟩
end Go.Proofs.YtepcpgdfbaklfaaGreatDoor
