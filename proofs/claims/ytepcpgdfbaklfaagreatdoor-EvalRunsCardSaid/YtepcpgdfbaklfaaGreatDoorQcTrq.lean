/- The bytes of code points, plain (of XTxd what needs no builder). -/
import Derived.Test.YtepcpgdfbaklfaaGreatDoorQcLib
import Derived.Lib.MapLaws
import Derived.Lib.ValidLaws
import Derived.Test.YtepcpgdfbaklfaaGreatDoorQcTs0
set_option maxHeartbeats 4000000
set_option linter.unusedVariables false
namespace Go.Proofs.YtepcpgdfbaklfaaGreatDoor
open Go.RowKit Go.Shelf
def encs (l:List (Nat×Int)):List UInt8:=l.flatMap λx=>Lib.encodeRune (clp x.2)
open Go.Lib
def pcN (n m o r A:Nat):Nat×Bool:=
 if m<128 then(1,true)else if m<194 then(1,false)
 else if m<224 then(if 1<n/\128<=o/\o<=191 then(2,true)else(1,false))
 else if m<240 then(if 1<n/\lof m<=o/\o<=hif m then(if 2<n/\128<=r/\r<=191 then(3,true)else(2,false))else(1,false))
 else if m<=244 then(if 1<n/\lof m<=o/\o<=hif m then(if 2<n/\128<=r/\r<=191 then(if 3<n/\128<=A/\A<=191 then(4,true)else(3,false))else(2,false))else(1,false))
 else(1,false)
theorem zJ (m o n:Nat)(r:List UInt8):pcg 1 m o r n=if 0<r.length/\m<=(r.getD 0 0).toNat/\(r.getD 0 0).toNat<=o then(n+1,true)else(n,false):=by
 match r with
 | []=>simp[pcg]
 | x::r=>simp[pcg]
theorem zI (k m o n:Nat)(r:List UInt8):pcg (k+1) m o r n=if 0<r.length/\m<=(r.getD 0 0).toNat/\(r.getD 0 0).toNat<=o then pcg k 128 191 (r.drop 1) (n+1)else(n,false):=by
 match r with
 | []=>simp[pcg]
 | x::r=>simp[pcg]
theorem zw (l:List UInt8)(h:l≠[]):pc l=pcN l.length (l.getD 0 0).toNat (l.getD 1 0).toNat (l.getD 2 0).toNat (l.getD 3 0).toNat:=by
 match l,h with
 | c::r,_=>
   have e:pc (c::r)=if okf c.toNat then pcg (nd c.toNat) (lof c.toNat) (hif c.toNat) r 1 else(1,false):=rfl
   rw[e]
   have M:(c::r).getD 0 0=c:=rfl
   have g1:(c::r).getD 1 0=r.getD 0 0:=rfl
   have K:(c::r).getD 2 0=(r.drop 1).getD 0 0:=by simp[List.getD]
   have g3:(c::r).getD 3 0=(r.drop 2).getD 0 0:=by simp[List.getD]
   rw[M,g1,K,g3]
   have G:(c::r).length=r.length+1:=rfl
   have o:(r.drop 1).length=r.length - 1:=by simp
   have E:(r.drop 2).length=r.length - 2:=by simp
   rw[G]
   generalize c.toNat=m
   unfold pcN okf
   by_cases c0:m<128
   · have:nd m=0:=by unfold nd;rw[if_pos (by omega)]
     rw[if_pos c0,this];simp[pcg,c0]
   rw[if_neg c0]
   by_cases c1:m<194
   · rw[if_pos c1,if_neg (by simp;omega)]
   rw[if_neg c1]
   by_cases c2:m<224
   · have A:nd m=1:=by unfold nd;rw[if_neg c1,if_pos c2]
     have J:lof m=128:=by unfold lof;rw[if_neg (by omega),if_neg (by omega)]
     have I:hif m=191:=by unfold hif;rw[if_neg (by omega),if_neg (by omega)]
     rw[if_pos c2,if_pos (by simp;omega),A,J,I,zJ]
     simp only[Nat.lt_add_left_iff_pos]
   rw[if_neg c2]
   by_cases c3:m<240
   · have A:nd m=2:=by unfold nd;rw[if_neg c1,if_neg c2,if_pos c3]
     rw[if_pos c3,if_pos (by simp;omega),A,zI,zJ,o]
     simp only[Nat.lt_add_left_iff_pos,show(0<r.length - 1)=(2<r.length+1)from propext (by omega)]
   rw[if_neg c3]
   by_cases c4:m<=244
   · have A:nd m=3:=by unfold nd;rw[if_neg c1,if_neg c2,if_neg c3,if_pos c4]
     rw[if_pos c4,if_pos (by simp;omega),A,zI,zI,zJ,List.drop_drop,o,E]
     simp only[Nat.lt_add_left_iff_pos,show(0<r.length - 1)=(2<r.length+1)from propext (by omega),show(0<r.length - 2)=(3<r.length+1)from propext (by omega)]
   · rw[if_neg c4,if_neg (by simp;omega)]
theorem yF (n A r o m:Nat)(K:A<256)(J:r<256)(I:o<256)(G:m<256)(h:(pcN n A r o m).2=false):decodeN n A r o m=(65533,1):=by
 unfold pcN lof hif at h
 rcases decodeN_shape n A r o m with⟨c,e⟩ | ⟨c1,c2,c3,E,e⟩ | ⟨c1,c2,c3,c4,E,cs,e⟩ | ⟨c1,c2,c3,c4,c5,E,M,e⟩ | e
 · rw[if_pos c]at h;cases h
 · exfalso
   rw[if_neg (by omega),if_neg (by omega),if_pos (by omega),if_pos (by omega)]at h;cases h
 · exfalso
   rw[if_neg (by omega),if_neg (by omega),if_neg (by omega),if_pos (by omega),if_pos (by(repeat' split) <;> omega),if_pos (by omega)]at h;cases h
 · exfalso
   rw[if_neg (by omega),if_neg (by omega),if_neg (by omega),if_neg (by omega),if_pos (by omega),if_pos (by(repeat' split) <;> omega),if_pos (by omega),if_pos (by omega)]at h;cases h
 · exact e
def Sc (r:Int):Prop:=0<=r/\r<=1114111/\¬(55296<=r/\r<=57343)
theorem ss (n m o r A:Nat)(J:m<256)(I:o<256)(G:r<256)(E:A<256)(h:(pcN n m o r A).2=true):decodeN n m o r A≠(65533,1)/\(decodeN n m o r A).2=(pcN n m o r A).1/\Sc (decodeN n m o r A).1:=by
 unfold pcN at h ⊢
 unfold decodeN Sc
 by_cases c0:m<128
 · rw[if_pos c0,if_pos c0];refine⟨λe=> ?_,rfl,?_⟩
   · have:=congrArg Prod.fst e;simp at this;omega
   · dsimp only;omega
 rw[if_neg c0]at h ⊢
 by_cases c1:m<194
 · rw[if_pos c1]at h;cases h
 rw[if_neg c1]at h ⊢
 by_cases c2:m<224
 · rw[if_pos c2]at h ⊢
   split at h
   · rename_i c
     rw[if_neg c0,if_pos c,if_pos (by omega),if_pos (by omega)]
     refine⟨λe=> ?_,rfl,?_⟩
     · have:=congrArg Prod.snd e;simp at this
     · dsimp only;omega
   · cases h
 rw[if_neg c2]at h ⊢
 by_cases c3:m<240
 · rw[if_pos c3]at h ⊢
   split at h
   · rename_i c
     rw[if_pos c]
     split at h
     · rename_i d
       have hx:(2048<=m % 16*4096+o % 64*64+r % 64/\(m % 16*4096+o % 64*64+r % 64<55296\/(57344<=m % 16*4096+o % 64*64+r % 64/\m % 16*4096+o % 64*64+r % 64<=1114111)))/\o / 64=2:=by
        obtain⟨_,c4,c5⟩:=c
        unfold lof at c4;unfold hif at c5
        split at c4 <;> split at c5 <;> (try split at c4) <;> (try split at c5) <;> omega
       rw[if_neg c0,if_pos d,if_neg (by omega),if_pos (by omega),if_pos (by omega)]
       refine⟨λe=> ?_,rfl,?_⟩
       · have:=congrArg Prod.snd e;simp at this
       · dsimp only;omega
     · cases h
   · cases h
 rw[if_neg c3]at h ⊢
 by_cases c4:m<=244
 · rw[if_pos c4]at h ⊢
   split at h
   · rename_i c
     rw[if_pos c]
     split at h
     · rename_i d
       rw[if_pos d]
       split at h
       · rename_i f
         have hx:(65536<=m % 8*262144+o % 64*4096+r % 64*64+A % 64/\m % 8*262144+o % 64*4096+r % 64*64+A % 64<=1114111)/\o / 64=2:=by
          obtain⟨_,c4,c5⟩:=c
          unfold lof at c4;unfold hif at c5
          split at c4 <;> split at c5 <;> (try split at c4) <;> (try split at c5) <;> omega
         rw[if_neg c0,if_pos f,if_neg (by omega),if_neg (by omega),if_pos (by omega),if_pos (by omega)]
         refine⟨λe=> ?_,rfl,?_⟩
         · have:=congrArg Prod.snd e;simp at this
         · dsimp only;omega
       · cases h
     · cases h
   · cases h
 · rw[if_neg c4]at h;cases h
theorem mh (l:List UInt8)(h:l≠[]):decodeGo ⟨l.toArray⟩=decodeL l:=by
 unfold decodeGo decodeL
 rw[if_neg]
 intro e
 exact h (List.length_eq_zero_iff.1 e)
theorem yE (l:List UInt8)(h:l≠[])(m:(pc l).2=true):Sc (rn l)/\encodeRune (rn l)=l.take (pc l).1:=by
 have r:=zw l h
 rw[r]at m
 obtain⟨E,o,A⟩:=ss _ _ _ _ _ (l.getD 0 0).toNat_lt (l.getD 1 0).toNat_lt (l.getD 2 0).toNat_lt (l.getD 3 0).toNat_lt m
 rw[<-r]at m o
 rw[<-decodeL_N]at E o A
 have G:rn l=((decodeL l).1:Int):=by unfold rn;rw[if_pos m,mh l h]
 rw[G]
 refine⟨A,?_⟩
 rw[encode_decode l h (λe=>E (Prod.ext e.1 e.2)),o]
theorem wT (l:List UInt8)(h:l≠[])(m:(pc l).2=false):rn l=65533/\decodeL l=(65533,1):=by
 have o:=zw l h
 refine⟨by unfold rn;rw[m];rfl,?_⟩
 rw[o]at m
 rw[decodeL_N]
 exact yF _ _ _ _ _ (l.getD 0 0).toNat_lt (l.getD 1 0).toNat_lt (l.getD 2 0).toNat_lt (l.getD 3 0).toNat_lt m
theorem zG (l:List UInt8)(h:l≠[]):Sc (rn l):=by
 cases m:(pc l).2 with
 | true=>exact(yE l h m).1
 | false=>rw[(wT l h m).1];unfold Sc;omega
def AE (l:List Int):List UInt8:=l.flatMap encodeRune
def Pt.cin (cs:List By):Pt->Prop
 | .nil=>True
 | .cons h k e r=>(h.kind=5->bl h.name∈cs)/\k.cin cs/\e.cin cs/\r.cin cs
theorem Pt.cin_app (cs:List By)(x y:Pt)(hx:x.cin cs)(o:y.cin cs):(x.app y).cin cs:=by
 induction x with
 | nil=>exact o
 | cons h k e r _ _ m=>exact⟨hx.1,hx.2.1,hx.2.2.1,m hx.2.2.2⟩
theorem Pt.cin_mono (cs A:List By)(h:∀n∈cs,n∈A)(x:Pt)(hx:x.cin cs):x.cin A:=by
 induction x with
 | nil=>trivial
 | cons a k e r m o E=>exact⟨λG=>h _ (hx.1 G),m hx.2.1,o hx.2.2.1,E hx.2.2.2⟩
theorem Pt.form_app (o:Bool)(x y:Pt)(hx:x.form false=true)(I:y.form o=true):(x.app y).form o=true:=by
 induction x with
 | nil=>exact I
 | cons h k e r _ _ G=>
   simp only[Pt.form,Pt.app,Bool.and_eq_true,Bool.false_and]at hx ⊢
   refine⟨⟨?_,hx.1.2⟩,G hx.2⟩
   have hw:∀(q:Bool),gj h k e false=true->gj h k e q=true:=by
    intro q m
    unfold gj at m ⊢
    split
    · rename_i E
      rw[if_pos E]at m
      have:jZ (bl h.text) false=true->jZ (bl h.text) q=true:=by
       intro A
       unfold jZ at A ⊢
       simp only[Bool.and_eq_true,Bool.false_or,Bool.or_eq_true]at A ⊢
       exact⟨A.1,.inr A.2⟩
      simp only[Bool.and_eq_true]at m ⊢
      exact⟨⟨⟨⟨⟨this m.1.1.1.1.1,m.1.1.1.1.2⟩,m.1.1.1.2⟩,m.1.1.2⟩,m.1.2⟩,m.2⟩
    · rename_i E
      rw[if_neg E]at m
      exact m
   exact hw _ hx.1.1
theorem Pt.deep_app (x y:Pt):(x.app y).deep=max x.deep y.deep:=by
 induction x with
 | nil=>simp[Pt.app,Pt.deep]
 | cons h k e r _ _ m=>simp only[Pt.app,Pt.deep,m];omega
theorem Pt.form_mono (fr:Bool)(x:Pt)(hx:x.form false=true):x.form fr=true:=by
 have:=Pt.form_app fr x .nil hx rfl
 rwa[Pt.app_nil]at this
structure uf (fr:Bool)(cs:List By)(lv:Nat)(f:Fr):Prop where
 kids:f.kids.form fr=true
 fst:f.fst.form false=true
 dk:f.kids.deep+lv<=64
 df:f.fst.deep+lv<=64
 ck:f.kids.cin cs
 cf:f.fst.cin cs
 nm:ex f.names=true
theorem uf.mono {fr:Bool}{cs r:List By}{m:Nat}{f:Fr}(h:uf fr cs m f)(o:∀n∈cs,n∈r):uf fr r m f:=
 {h with ck:=Pt.cin_mono _ _ o _ h.ck,cf:=Pt.cin_mono _ _ o _ h.cf}
theorem uf.put {fr:Bool}{cs:List By}{o:Nat}{f:Fr}{h:Hd}{k e:Pt}(m:uf false cs o f)(A:(Pt.one h k e).form fr=true)(E:(Pt.one h k e).deep+o<=64)(r:(Pt.one h k e).cin cs):
 uf fr cs o {f with kids:=f.kids.app (.one h k e)}:=
 ⟨Pt.form_app fr _ _ m.kids A,m.fst,by show(f.kids.app (.one h k e)).deep+o<=64;rw[Pt.deep_app];have:=m.dk;omega,m.df,Pt.cin_app _ _ _ m.ck r,m.cf,m.nm⟩
def lN (fr:Bool)(cs:List By)(defs:List Df):Fr->List Fr->Prop
 | f,[]=>f.kind=0/\uf fr cs 0 f
 | f,g::r=>uf fr cs (r.length+1) f/\(f.kind=3\/f.kind=4\/(f.kind=6/\r=[]/\eK f.name=true/\eE defs f.name=false))/\lN false cs defs g r
theorem lN.top {fr:Bool}{cs:List By}{defs:List Df}{f:Fr}{l:List Fr}(h:lN fr cs defs f l):uf fr cs l.length f:=by
 cases l with
 | nil=>exact h.2
 | cons g r=>exact h.1
theorem lN.turn {fr m:Bool}{cs:List By}{defs:List Df}{f o:Fr}{l:List Fr}(h:lN fr cs defs f l)(E:o.kind=f.kind)(G:o.name=f.name)(A:uf m cs l.length o):lN m cs defs o l:=by
 cases l with
 | nil=>exact⟨E.trans h.1,A⟩
 | cons g r=>exact⟨A,by rw[E,G];exact h.2.1,h.2.2⟩
theorem lN.mono {fr:Bool}{cs o:List By}{defs:List Df}(m:∀n∈cs,n∈o):∀{l:List Fr} {f:Fr},lN fr cs defs f l->lN fr o defs f l:=by
 intro l
 induction l generalizing fr with
 | nil=>intro f h;exact⟨h.1,h.2.mono m⟩
 | cons g r A=>intro f h;exact⟨h.1.mono m,h.2.1,A h.2.2⟩
structure gz (fr:Bool)(s:St):Prop where
 frs:lN fr (s.calls.map Prod.fst) s.defs s.top s.rest
 defs:∀d∈s.defs,eK (bl d.name)=true/\d.kids.form false=true/\1+d.kids.deep<=64/\d.kids.cin (s.calls.map Prod.fst)
 tw:twice (s.defs.map λd=>bl d.name)=false
theorem gz.start:gz false St.start:=⟨⟨rfl,rfl,rfl,by decide,by decide,trivial,trivial,rfl⟩,(λd h=>by cases h),rfl⟩
theorem gz.many {fr:Bool}{s:St}(h:gz fr s)(m:Nat):gz fr {s with many:=m}:=⟨h.frs,h.defs,h.tw⟩
theorem gz.count {fr:Bool}{s m:St}{at_:Nat}(h:gz fr s)(e:s.count at_=.ok m):gz fr m:=by
 unfold St.count at e
 split at e
 · cases e
 · cases e;exact h.many _
theorem gz.put {fr:Bool}{s:St}{m:Hd}{k e:Pt}(h:gz false s)(A:(Pt.one m k e).form fr=true)(r:(Pt.one m k e).deep+s.rest.length<=64)(o:(Pt.one m k e).cin (s.calls.map Prod.fst)):gz fr (s.put m k e):=
 ⟨h.frs.turn rfl rfl (h.frs.top.put A r o),h.defs,h.tw⟩
theorem qN (l:List By)(n:By)(h:twice l=false)(m:l.contains n=false):twice (l++[n])=false:=by
 induction l with
 | nil=>rfl
 | cons a l o=>
   simp only[twice,List.cons_append,Bool.or_eq_false_iff]at h ⊢
   simp only[List.contains_cons,Bool.or_eq_false_iff]at m
   refine⟨?_,o h.2 m.2⟩
   rw[List.contains_eq_any_beq,List.any_append,Bool.or_eq_false_iff,←List.contains_eq_any_beq]
   refine⟨h.1,?_⟩
   have:=m.1
   simp only[List.any_cons,List.any_nil,Bool.or_false]
   rw[Bool.eq_false_iff]at this ⊢
   intro e
   apply this
   simpa using(beq_iff_eq.1 e).symm
theorem pL (l:List By):bls (l.map mkB)=l:=by
 unfold bls;rw[List.map_map]
 conv=>rhs;rw[<-List.map_id l]
 apply List.map_congr_left
 intro x _;exact oA x
theorem wY (k pos:Nat)(root:Bool)(l:List By)(a b:Pt)(o:k=3\/k=4)(m:ex l=true)(A:a.form false=true)(r:b.form false=true)(fr:Bool):(Pt.one (ip k pos root l) a b).form fr=true:=by
 have G:¬k=1:=by omega
 have E:¬k=2:=by omega
 simp only[Pt.one,Pt.form,gj,ip,if_neg G,if_neg E,if_pos o,pL,m,A,r]
 rfl
theorem uQ (pos:Nat)(root:Bool)(l:List By)(m:ex l=true)(fr:Bool):(Pt.one (jv pos root l) .nil .nil).form fr=true:=by
 simp only[Pt.one,Pt.form,gj,jv,pL,m]
 rfl
theorem uR (pos:Nat)(name:By)(root:Bool)(l:List By)(m:eK name=true)(o:ex l=true)(fr:Bool):(Pt.one (iP pos name root l) .nil .nil).form fr=true:=by
 simp only[Pt.one,Pt.form,gj,iP,pL,o,oA,m]
 rfl
theorem qd (pos:Nat)(x:By)(fr:Bool)(h:jZ x fr=true):(Pt.one (ga pos x) .nil .nil).form fr=true:=by
 simp only[Pt.one,Pt.form,gj,ga,oA,Pt.isNil,Bool.and_true,h]
 rfl
theorem lO (root:Bool)(w:By)(p:Bool×List By)(h:vF root w=some p):ex p.2=true:=by
 unfold vF at h
 split at h
 · split at h
   · cases h;assumption
   · cases h
 · cases h
theorem jJ (w:By)(p:Bool×List By)(h:kH w=some p):ex p.2=true:=by
 unfold kH at h
 split at h
 · cases h;rfl
 · cases h;rfl
 · exact lO _ _ _ h
 · exact lO _ _ _ h
theorem Rs.bind_eq_ok {α β:Type}{x:Rs α}{f:α->Rs β}{b:β}(h:x.bind f=.ok b):∃a,x=.ok a/\f a=.ok b:=by
 cases x with
 | ok a=>exact⟨a,rfl,h⟩
 | err e i=>cases h
theorem gz.rl {fr:Bool}{s:St}(h:gz fr s):s.rest.length<=64:=by have:=h.frs.top.dk;omega
theorem qe (m:Hd)(h:m.kind≠3/\m.kind≠4):(Pt.one m .nil .nil).deep=0:=by
 simp only[Pt.one,Pt.deep]
 rw[if_neg (by omega)];rfl
theorem gz.add {fr:Bool}{s o:St}{m:Hd}{at_:Nat}(h:gz false s)(I:(Pt.one m .nil .nil).form fr=true)(E:m.kind≠3/\m.kind≠4)(G:m.kind≠5)(e:s.add m at_=.ok o):gz fr o:=by
 unfold St.add at e
 obtain⟨t,A,e⟩:=Rs.bind_eq_ok e
 cases e
 have r:=h.count A
 refine r.put I ?_ ⟨λe=>absurd e G,trivial,trivial,trivial⟩
 rw[qe m E]
 have:=r.rl;omega
theorem gz.begin {s r:St}{f:Fr}{at_:Nat}(h:gz false s)(G:f.kind=3\/f.kind=4\/(f.kind=6/\s.rest=[]/\eK f.name=true/\eE s.defs f.name=false))(o:f.fst=.nil)(m:f.kids=.nil)(A:ex f.names=true)(e:s.begin f at_=.ok r):gz false r:=by
 unfold St.begin at e
 split at e
 · cases e
 · rename_i E
   cases e
   refine⟨⟨⟨by rw[m];rfl,by rw[o];rfl,?_,?_,by rw[m];trivial,by rw[o];trivial,A⟩,G,h.frs⟩,h.defs,h.tw⟩
   · rw[m];show 0+(s.rest.length+1)<=64;omega
   · rw[o];show 0+(s.rest.length+1)<=64;omega
theorem gz.endA {s N:St}{at_:Nat}(h:gz false s)(e:s.endA at_=.ok N):gz false N:=by
 obtain⟨⟨kind,pos,root,names,name,els,fst,kids⟩,rest,defs,many,calls⟩:=s
 obtain⟨W,U,O⟩:=h
 cases rest with
 | nil=>cases e
 | cons g r=>
   obtain⟨o,m,M⟩:=W
   simp only[St.endA]at e
   split at e
   · rename_i V
     cases e
     have h7:kind=6/\r=[]/\eK name=true/\eE defs name=false:=by
      rcases m with m | m | m
      · simp at m;omega
      · simp at m;omega
      · exact m
     obtain⟨-,rfl,h8,h9⟩:=h7
     refine⟨⟨M.1,M.2⟩,?_,?_⟩
     · intro d A
       rcases List.mem_append.1 A with A | A
       · exact U d A
       · simp at A;subst A
         refine⟨h8,o.kids,?_,o.ck⟩
         have:=o.dk
         show 1+kids.deep<=64
         simp at this;omega
     · rw[List.map_append]
       refine qN _ _ O ?_
       rw[<-rm];exact h9
   · rename_i V
     cases e
     have R:kind=3\/kind=4:=by
      rcases m with m | m | m
      · exact .inl m
      · exact .inr m
      · exact absurd m.1 V
     have I:(if els then fst else kids).form false=true:=by split;exact o.fst;exact o.kids
     have G:(if els then kids else Pt.nil).form false=true:=by split;exact o.kids;rfl
     have Z:(if els then fst else kids).deep+(r.length+1)<=64:=by split;exact o.df;exact o.dk
     have Y:(if els then kids else Pt.nil).deep+(r.length+1)<=64:=by
      split
      · exact o.dk
      · have:=o.dk;simp at this;show 0+(r.length+1)<=64;omega
     have K:(if els then fst else kids).cin (calls.map Prod.fst):=by split;exact o.cf;exact o.ck
     have J:(if els then kids else Pt.nil).cin (calls.map Prod.fst):=by split;exact o.ck;trivial
     have E:gz false {top:=g,rest:=r,defs:=defs,many:=many,calls:=calls}:=⟨M,U,O⟩
     refine E.put (wY _ _ _ _ _ _ R o.nm I G false) ?_ ⟨λe=> ?_,K,J,trivial⟩
     · simp only[Pt.one,Pt.deep,ip,if_pos R]
       omega
     · simp only[ip]at e;omega
theorem gz.elseA {s o:St}{at_:Nat}(h:gz false s)(e:s.elseA at_=.ok o):gz false o:=by
 unfold St.elseA at e
 split at e
 · cases e
 · cases e
   have m:=h.frs.top
   refine⟨h.frs.turn rfl rfl ⟨rfl,m.kids,?_,m.dk,trivial,m.ck,m.nm⟩,h.defs,h.tw⟩
   have:=m.dk
   show 0+s.rest.length<=64
   omega
theorem gz.act1 {s m:St}{w:By}{at_:Nat}(h:gz false s)(e:act1 w at_ s=.ok m):gz false m:=by
 unfold Go.Proofs.YtepcpgdfbaklfaaGreatDoor.act1 at e
 split at e
 · exact h.endA e
 split at e
 · exact h.elseA e
 split at e
 · cases e
 · rename_i p o
   exact h.add (uQ _ _ _ (jJ _ _ o) false) ⟨by show(2:Nat)≠3;decide,by show(2:Nat)≠4;decide⟩ (by show(2:Nat)≠5;decide) e
theorem gz.act2 {s o:St}{w x:By}{at_:Nat}(h:gz false s)(e:act2 w x at_ s=.ok o):gz false o:=by
 unfold Go.Proofs.YtepcpgdfbaklfaaGreatDoor.act2 at e
 split at e
 · split at e
   · cases e
   · rename_i p A
     obtain⟨t,r,e⟩:=Rs.bind_eq_ok e
     refine(h.begin ?_ rfl rfl (jJ _ _ A) r).count e
     dsimp only
     split
     · exact .inl rfl
     · exact .inr (.inl rfl)
 split at e
 · split at e
   · cases e
   · rename_i m
     simp only[not_or,Decidable.not_not]at m
     split at e
     · cases e
     · rename_i E
       exact h.begin (.inr (.inr ⟨rfl,m.2,by simpa using m.1,by simpa using E⟩)) rfl rfl rfl e
 · cases e
theorem gz.act3 {s A:St}{w x y:By}{at_:Nat}(h:gz false s)(e:act3 w x y at_ s=.ok A):gz false A:=by
 unfold Go.Proofs.YtepcpgdfbaklfaaGreatDoor.act3 at e
 split at e
 · split at e
   · cases e
   · rename_i p J
     split at e
     · cases e
     · rename_i r
       obtain⟨t,I,e⟩:=Rs.bind_eq_ok e
       cases e
       have m:=h.count I
       have E:∀n∈t.calls.map Prod.fst,n∈(t.calls++[(x,at_)]).map Prod.fst:=by
        intro n r;rw[List.map_append];exact List.mem_append_left _ r
       have G:gz false {t with calls:=t.calls++[(x,at_)]}:=⟨m.frs.mono E,λd o=>⟨(m.defs d o).1,(m.defs d o).2.1,(m.defs d o).2.2.1,Pt.cin_mono _ _ E _ (m.defs d o).2.2.2⟩,m.tw⟩
       refine G.put (uR _ _ _ _ (by simpa using r) (jJ _ _ J) false) ?_ ⟨λ_=> ?_,trivial,trivial,trivial⟩
       · rw[qe _ ⟨by show(5:Nat)≠3;decide,by show(5:Nat)≠4;decide⟩]
         have:=G.rl;omega
       · show bl (mkB x)∈_
         rw[oA,List.map_append]
         exact List.mem_append_right _ (by simp)
 · cases e
theorem gz.action {s m:St}{x:By}{at_:Nat}(h:gz false s)(e:action x at_ s=.ok m):gz false m:=by
 unfold Go.Proofs.YtepcpgdfbaklfaaGreatDoor.action at e
 split at e
 · cases e;exact h
 split at e
 · exact h.act1 e
 · exact h.act2 e
 · exact h.act3 e
 · cases e
theorem jz (c:UInt8)(x:By)(h:gq c x=none)(o:x≠[])(m:Lib.validD x=true)(fr:Bool)(A:fr=false->x.getLast?≠some 123)(E:c=123):jZ x fr=true:=by
 subst E
 unfold jZ
 rw[m,h]
 cases x with
 | nil=>exact absurd rfl o
 | cons a r=>
   cases fr with
   | true=>rfl
   | false=>have:=A rfl;simp only[List.isEmpty_cons,Bool.not_false,Option.isNone_none,Bool.and_self,Bool.true_and,Bool.false_or,decide_eq_true_eq,ne_eq];exact this
def AA:Prop:=∀(a b:By) (c:UInt8),c.toNat<128->Lib.validD (a++c::b)=true->Lib.validD a=true/\Lib.validD b=true
theorem gz.readF (E:AA)(f:Nat):∀(x:By) (at_:Nat) (s o:St),gz false s->Lib.validD x=true->readF f x at_ s=.ok o->gz true o:=by
 induction f with
 | zero=>
   intro x at_ s o h _ e
   cases e
   exact⟨h.frs.turn rfl rfl {h.frs.top with kids:=Pt.form_mono _ _ h.frs.top.kids},h.defs,h.tw⟩
 | succ f R=>
   intro x at_ s o h O e
   have m:∀s:St,gz false s->gz true s:=λs h=>⟨h.frs.turn rfl rfl {h.frs.top with kids:=Pt.form_mono _ _ h.frs.top.kids},h.defs,h.tw⟩
   unfold Go.Proofs.YtepcpgdfbaklfaaGreatDoor.readF at e
   split at e
   · cases e;exact m _ h
   · rename_i hx
     split at e
     · rename_i N
       exact h.add (qd _ _ _ (jz 123 x N hx O true (λe=>by cases e) rfl)) ⟨by show(1:Nat)≠3;decide,by show(1:Nat)≠4;decide⟩ (by show(1:Nat)≠5;decide) e
     · rename_i a r N
       obtain⟨t,J,A⟩:=Rs.bind_eq_ok e
       clear e
       obtain⟨rfl,V,K⟩:=fN 123 _ _ _ N
       obtain⟨va,G⟩:=E _ _ 123 (by decide) O
       obtain⟨-,G⟩:=E [] _ 123 (by decide) G
       have Y:gz false t:=by
        split at J
        · cases J;exact h
        · rename_i W
          exact h.add (qd _ _ _ (jz 123 a V W va false (λ_=>K) rfl)) ⟨by show(1:Nat)≠3;decide,by show(1:Nat)≠4;decide⟩ (by show(1:Nat)≠5;decide) J
       split at A
       · cases A
       · rename_i i r2 M
         obtain⟨u,U,Z⟩:=Rs.bind_eq_ok A
         clear A
         obtain⟨rfl,-,-⟩:=fN 125 _ _ _ M
         obtain⟨-,I⟩:=E _ _ 125 (by decide) G
         obtain⟨-,I⟩:=E [] _ 125 (by decide) I
         exact R _ _ _ _ (Y.action U) I Z
open Go.RowKit Go.Shelf Go.Lib
end Go.Proofs.YtepcpgdfbaklfaaGreatDoor
