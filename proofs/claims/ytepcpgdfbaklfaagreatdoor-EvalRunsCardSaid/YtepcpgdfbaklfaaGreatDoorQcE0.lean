/- Plain definitions for layer 20: values as data; what a path leads to; what counts as true; which values may be; how a template is run. And laws on them: more fuel and more calls; other fuel's rest. No program in sight, no condition. -/
import Derived.Test.YtepcpgdfbaklfaaGreatDoorQcTp0
import GoSem.Op.Equal
set_option linter.unusedSimpArgs false
set_option linter.unusedVariables false
namespace Go.Proofs.YtepcpgdfbaklfaaGreatDoor.Ev
structure Vh where
 kind:Nat
 b:Bool
 n:Int
 bits:Nat
 text:ByteArray
 keys:List ByteArray
inductive Vl where
 | nil:Vl
 | cons (h:Vh) (items rest:Vl):Vl
structure Va where
 h:Vh
 items:Vl
namespace Vl
def len:Vl->Nat
 | nil=>0
 | cons _ _ r=>r.len+1
def get:Vl->Nat->Option Va
 | nil,_=>none
 | cons h k _,0=>some ⟨h,k⟩
 | cons _ _ r,i+1=>r.get i
end Vl
def rL:Vh:=⟨0,false,0,0,.empty,[]⟩
def fS:Va:=⟨rL,.nil⟩
def gX (n:ByteArray):List ByteArray->Nat
 | []=>0
 | k::r=>if k=n then 0 else gX n r+1
def eU:List ByteArray->Va->Except Nat Va
 | [],v=>.ok v
 | n ::r,v=>if v.h.kind=7 then
     if gX n v.h.keys<v.h.keys.length then
      match v.items.get (gX n v.h.keys)with
      | some x=>eU r x
      | none=>.error 200
     else .error 200
   else .error 201
def fV (v:Va):Bool:=
 if v.h.kind=2 then v.h.b
 else if v.h.kind=3 then decide (v.h.n≠0)
 else if v.h.kind=4 then decide (v.h.bits % 9223372036854775808≠0/\v.h.bits % 9223372036854775808<=9218868437227405312)
 else if v.h.kind=5 then decide (v.h.text.size≠0)
 else if v.h.kind=6\/v.h.kind=7 then decide (v.items.len≠0)
 else false
def eW (h:Vh)(items:Nat):Bool:=
 decide (1<=h.kind/\h.kind<=7)&&(decide (h.kind=2)|| !h.b)&&(decide (h.kind=3)||decide (h.n=0))&&(decide (h.kind=4)||decide (h.bits=0))&&(decide (h.kind=5)||decide (h.text.size=0))
  &&(if h.kind=7 then decide (items=h.keys.length/\h.keys.Nodup)else decide (h.keys=[])&&(decide (h.kind=6)||decide (items=0)))
def gE:Vl->Bool
 | .nil=>true
 | .cons h k r=>eW h k.len&&gE k&&gE r
def gR:Vl->Nat
 | .nil=>0
 | .cons h k r=>max (if h.kind=6\/h.kind=7 then gR k+1 else 0) (gR r)
structure Pc where
 pos:Int
 hole:Bool
 val:Va
 text:ByteArray
structure Rs where
 out:List Pc
 fuel:Nat
 err:Option (Nat×Int)
def Rs.seq (a:Rs)(k:Nat->Rs):Rs:=
 match a.err with
 | some _=>a
 | none=>⟨a.out++(k a.fuel).out,(k a.fuel).fuel,(k a.fuel).err⟩
def iu (pos:Int)(f:Nat)(k:Nat->Rs):Rs:=
 match f with
 | 0=>⟨[],0,some (202,pos)⟩
 | f+1=>k f
def em (one:Hd->Pt->Pt->Nat->Rs):Pt->Nat->Rs
 | .nil,f=>⟨[],f,none⟩
 | .cons h k e r,f=>(one h k e f).seq (em one r)
def eM (pos:Int)(go:Va->Nat->Rs):Vl->Nat->Rs
 | .nil,f=>⟨[],f,none⟩
 | .cons h i r,f=>(iu pos f (go ⟨h,i⟩)).seq (eM pos go r)
def evF (D:ByteArray->Pt)(C:Nat):Nat->Va->Va->Nat->Hd->Pt->Pt->Nat->Rs
 | 0,_,_,_,h,_,_,f=>⟨[],f,some (202,h.pos)⟩
 | n+1,dot,root,deep,h,k,e,f=>iu h.pos f λf=>
   if h.kind=1 then⟨[⟨h.pos,false,fS,h.text⟩],f,none⟩
   else match eU h.names (if h.root then root else dot)with
   | .error x=>⟨[],f,some (x,h.pos)⟩
   | .ok v=>
     if h.kind=2 then⟨[⟨h.pos,true,v,.empty⟩],f,none⟩
     else if h.kind=3 then em (evF D C n dot root deep) (if fV v then k else e) f
     else if h.kind=4 then
      if v.h.kind=6 then
       if v.items.len=0 then em (evF D C n dot root deep) e f
       else eM h.pos (λx=>em (evF D C n x root deep) k) v.items f
      else⟨[],f,some (201,h.pos)⟩
     else if deep=C then⟨[],f,some (203,h.pos)⟩
     else em (evF D C n v v (deep+1)) (D h.name) f
def pY (D:ByteArray->Pt)(C:Nat)(main:Pt)(v:Va)(fuel:Nat):Rs:=em (evF D C fuel v v 0) main fuel
def zD (d:Nat)(a b:Rs):Prop:=
 (a.err=none/\b.err=none/\a.out=b.out/\b.fuel=a.fuel+d)\/
 (∃e p,a.err=some (e,p)/\e≠202/\e≠203/\b.err=some (e,p)/\a.out=b.out)\/
 (∃e p,a.err=some (e,p)/\(e=202\/e=203)/\a.out <+: b.out)
theorem zD.seq {d:Nat}{a b:Rs}{k l:Nat->Rs}(h:zD d a b)(I:a.err=none->zD d (k a.fuel) (l (a.fuel+d))):zD d (a.seq k) (b.seq l):=by
 rcases h with⟨o,r,E,K⟩ | ⟨e,p,o,m,A,r,E⟩ | ⟨e,p,o,m,E⟩
 · have I:=I o
   simp only[Rs.seq,o,r,K,E]
   rcases I with⟨m,A,G,J⟩ | ⟨e,p,m,A,G,J,M⟩ | ⟨e,p,m,A,G⟩
   · exact .inl ⟨m,A,by simp[G],J⟩
   · exact .inr (.inl ⟨e,p,m,A,G,J,by simp[M]⟩)
   · exact .inr (.inr ⟨e,p,m,A,(List.prefix_append_right_inj _).2 G⟩)
 · simp only[Rs.seq,o,r]
   exact .inr (.inl ⟨e,p,o,m,A,r,E⟩)
 · refine .inr (.inr ⟨e,p,by simp only[Rs.seq,o],m,?_⟩)
   have:(a.seq k).out=a.out:=by simp only[Rs.seq,o]
   rw[this]
   refine E.trans ?_
   cases r:b.err with
   | none=>simp only[Rs.seq,r];exact List.prefix_append _ _
   | some x=>simp only[Rs.seq,r];exact List.prefix_refl _
theorem qk {f:Nat}{a:Rs}{k:Nat->Rs}(h:a.fuel<=f)(o:∀g,g<=f->(k g).fuel<=g):(a.seq k).fuel<=f:=by
 cases m:a.err with
 | some x=>simpa only[Rs.seq,m]using h
 | none=>simp only[Rs.seq,m];exact Nat.le_trans (o _ h) h
theorem kW {one:Hd->Pt->Pt->Nat->Rs}{F:Nat}(h:∀x k e f,f<=F->(one x k e f).fuel<=f):∀l f,f<=F->(em one l f).fuel<=f
 | .nil,f,_=>AG _
 | .cons x k e r,f,m=>qk (h x k e f m) λg o=>kW h r g (Nat.le_trans o m)
theorem l8 {pos:Int}{go:Va->Nat->Rs}{F:Nat}(h:∀x f,f<=F->(go x f).fuel<=f):∀l f,f<=F->(eM pos go l f).fuel<=f
 | .nil,f,_=>AG _
 | .cons x i r,f,o=>by
   refine qk ?_ λg m=>l8 h r g (Nat.le_trans m o)
   cases f with
   | zero=>exact AG _
   | succ f=>exact Nat.le_trans (h _ f (by omega)) (by omega)
theorem mK {D:ByteArray->Pt}{C:Nat}:∀n dot root deep h k e f,(evF D C n dot root deep h k e f).fuel<=f
 | 0,_,_,_,_,_,_,f=>AG _
 | n+1,dot,root,deep,h,k,e,f=>by
   cases f with
   | zero=>exact AG _
   | succ f=>
     simp only[evF,iu]
     have o:=λdot root deep h k e f (_:f<=f)=>mK (D:=D) (C:=C) n dot root deep h k e f
     have m:∀dot root deep l f,(em (evF D C n dot root deep) l f).fuel<=f:=λdot root deep l f=>
      kW (F:=f) (λx k e f _=>mK n dot root deep x k e f) l f (AG _)
     split
     · simp
     · split
       · simp
       · split
         · simp
         · split
           · exact Nat.le_trans (m _ _ _ _ _) (by omega)
           · split
             · split
               · split
                 · exact Nat.le_trans (m _ _ _ _ _) (by omega)
                 · exact Nat.le_trans (l8 (F:=f) (λx g _=>m _ _ _ _ _) _ f (AG _)) (by omega)
               · simp
             · split
               · simp
               · exact Nat.le_trans (m _ _ _ _ _) (by omega)
theorem jw {l:Vl}:∀{i:Nat},i<l.len->∃x,l.get i=some x:=by
 induction l with
 | nil=>intro i h;exact absurd h (Nat.not_lt_zero _)
 | cons h k r _ m=>
   intro i o
   cases i with
   | zero=>exact⟨_,rfl⟩
   | succ i=>exact m (Nat.lt_of_succ_lt_succ o)
theorem mN {l:Vl}:∀{i:Nat},l.len<=i->l.get i=none:=by
 induction l with
 | nil=>intro i h;rfl
 | cons h k r _ o=>
   intro i m
   cases i with
   | zero=>exact absurd m (Nat.not_succ_le_zero _)
   | succ i=>exact o (Nat.le_of_succ_le_succ m)
def lE (p:Pc):Int:=if p.hole then -1 - p.pos else p.pos
def rJ (a b:Rs):Prop:=a.out.map lE=b.out.map lE/\a.fuel=b.fuel/\a.err=b.err
theorem rJ.seq {a b:Rs}{k l:Nat->Rs}(h:rJ a b)(E:∀f,rJ (k f) (l f)):rJ (a.seq k) (b.seq l):=by
 obtain⟨o,r,m⟩:=h
 cases A:b.err with
 | some x=>simp only[Rs.seq,m,A];exact⟨o,r,m⟩
 | none=>
   simp only[Rs.seq,m,A,r]
   obtain⟨J,I,G⟩:=E b.fuel
   exact⟨by simp only[List.map_append,o,J],I,G⟩
theorem rJ.refl (a:Rs):rJ a a:=⟨rfl,rfl,rfl⟩
theorem sH (f:Nat)(k:Nat->Rs):(⟨[],f,none⟩:Rs).seq k=k f:=by simp only[Rs.seq,List.nil_append]
open Go.RowKit Go.Shelf
def fF (ok:Nat->Prop)(w:World):Vl->Nat->Nat->Prop
 | .nil,_,_=>True
 | .cons h k r,b,o=>
   (w.cell? ⟨b,o,none⟩=some (.int .u8 (h.kind:Nat))/\w.cell? ⟨b,o+1,none⟩=some (.bool h.b)/\w.cell? ⟨b,o+2,none⟩=some (.int .i64 h.n)/\w.cell? ⟨b,o+3,none⟩=some (.int .u64 (h.bits:Nat))/\w.cell? ⟨b,o+4,none⟩=some (.string h.text)/\
     (∃v,w.cell? ⟨b,o+5,none⟩=some v/\Strs ok w v h.keys))/\
   (∃(a:Option Addr) (c:Nat),w.cell? ⟨b,o+6,none⟩=some (.slice a k.len c)/\k.len<=c/\c<=maxLen/\(k≠.nil->∃m A,a=some ⟨m,A,none⟩/\ok m/\fF ok w k m A))/\
   fF ok w r b (o+7)
def gb (ok:Nat->Prop)(w:World)(v:Value)(t:Vl):Prop:=
 ∃(a:Option Addr) (c:Nat),v=.slice a t.len c/\t.len<=c/\c<=maxLen/\(t≠.nil->∃b o,a=some ⟨b,o,none⟩/\ok b/\fF ok w t b o)
def g9 (ok:Nat->Prop)(w:World)(v:Value)(x:Va):Prop:=
 ∃m o,v=.agg #[.int .u8 (x.h.kind:Nat),.bool x.h.b,.int .i64 x.h.n,.int .u64 (x.h.bits:Nat),.string x.h.text,m,o]/\Strs ok w m x.h.keys/\gb ok w o x.items
theorem fF.kept {ok:Nat->Prop}{w w':World}(m:eL ok w w'):∀(t:Vl) (b o:Nat),ok b->fF ok w t b o->fF ok w' t b o:=by
 intro t
 induction t with
 | nil=>intro b o _ _;exact trivial
 | cons h k r I G=>
   intro b o A V
   obtain⟨⟨c0,c1,c2,c3,c4,v,c5,U⟩,⟨ak,ck,c6,R,O,N⟩,E⟩:=V
   refine⟨⟨(m.cell A _).trans c0,(m.cell A _).trans c1,(m.cell A _).trans c2,(m.cell A _).trans c3,(m.cell A _).trans c4,v,(m.cell A _).trans c5,U.kept m⟩,
    ⟨ak,ck,(m.cell A _).trans c6,R,O,λW=> ?_⟩,G b _ A E⟩
   obtain⟨M,J,Z,K,Y⟩:=N W
   exact⟨M,J,Z,K,I M J K Y⟩
theorem gb.kept {ok:Nat->Prop}{w w':World}{v:Value}{t:Vl}(h:gb ok w v t)(E:eL ok w w'):gb ok w' v t:=by
 obtain⟨a,c,r,M,K,J⟩:=h
 refine⟨a,c,r,M,K,λA=> ?_⟩
 obtain⟨b,o,I,m,G⟩:=J A
 exact⟨b,o,I,m,G.kept E _ _ _ m⟩
theorem g9.kept {ok:Nat->Prop}{w w':World}{v:Value}{x:Va}(h:g9 ok w v x)(m:eL ok w w'):g9 ok w' v x:=by
 obtain⟨o,r,A,G,E⟩:=h
 exact⟨o,r,A,G.kept m,E.kept m⟩
theorem fF.mono {ok ok':Nat->Prop}{w:World}(I:∀b,ok b->ok' b):∀(t:Vl) (b o:Nat),fF ok w t b o->fF ok' w t b o:=by
 intro t
 induction t with
 | nil=>intro b o _;exact trivial
 | cons h k r E A=>
   intro b o R
   obtain⟨⟨c0,c1,c2,c3,c4,v,c5,O⟩,⟨Z,ck,c6,N,M,K⟩,m⟩:=R
   refine⟨⟨c0,c1,c2,c3,c4,v,c5,O.mono I⟩,⟨Z,ck,c6,N,M,λU=> ?_⟩,A b _ m⟩
   obtain⟨J,G,Y,W,V⟩:=K U
   exact⟨J,G,Y,I _ W,E J G V⟩
theorem gb.mono {ok ok':Nat->Prop}{w:World}{v:Value}{t:Vl}(h:gb ok w v t)(m:∀b,ok b->ok' b):gb ok' w v t:=by
 obtain⟨a,c,r,M,K,J⟩:=h
 refine⟨a,c,r,M,K,λA=> ?_⟩
 obtain⟨b,o,I,G,E⟩:=J A
 exact⟨b,o,I,m b G,E.mono m _ _ _⟩
theorem g9.mono {ok ok':Nat->Prop}{w:World}{v:Value}{x:Va}(h:g9 ok w v x)(m:∀b,ok b->ok' b):g9 ok' w v x:=by
 obtain⟨o,r,A,G,E⟩:=h
 exact⟨o,r,A,G.mono m,E.mono m⟩
theorem gb.nil (ok:Nat->Prop)(w:World):gb ok w (.slice none 0 0) .nil:=⟨none,0,rfl,AG _,by decide,λh=>absurd rfl h⟩
theorem g9.zero (ok:Nat->Prop)(w:World):g9 ok w (.agg #[.int .u8 0,.bool false,.int .i64 0,.int .u64 0,.string .empty,.slice none 0 0,.slice none 0 0]) fS:=⟨_,_,rfl,Strs.nil _ _,gb.nil _ _⟩
theorem fF.at {ok:Nat->Prop}{w:World}:∀(t:Vl) (b o i:Nat) (x:Va),fF ok w t b o->t.get i=some x->∃r,fF ok w (.cons x.h x.items r) b (o+7*i):=by
 intro t
 induction t with
 | nil=>intro b o i x _ h;cases h
 | cons h k r _ E=>
   intro b o i x m hx
   cases i with
   | zero=>
     cases hx
     exact⟨r,m⟩
   | succ i=>
     obtain⟨A,G⟩:=E b (o+7) i x m.2.2 hx
     exact⟨A,by rwa[show o+7*(i+1)=o+7+7*i by omega]⟩
def eX:Vl->Nat
 | .nil=>0
 | .cons _ k r=>1+eX k+eX r
theorem eS:∀t:Vl,t.len<=eX t:=by
 intro t
 induction t with
 | nil=>exact AG _
 | cons h k r _ m=>simp only[Vl.len,eX];omega
def Vh.wf (h:Vh):Prop:=h.kind<256∧-9223372036854775808<=h.n/\h.n<=9223372036854775807/\h.bits<18446744073709551616/\h.text.size<=140737488351232/\h.keys.length<=140737488351232/\∀n∈h.keys,n.size<=140737488351232
def wfX:Vl->Prop
 | .nil=>True
 | .cons h k r=>h.wf/\wfX k/\wfX r/\k.len<=140737488351232
def wgX:Vl->Nat
 | .nil=>0
 | .cons h k r=>(1+h.text.size+h.keys.length+(h.keys.map ByteArray.size).sum+wgX k)+wgX r
def jg (v:Va):Nat:=
 if gE (.cons v.h v.items .nil)then(if gR (.cons v.h v.items .nil)>64 then 161 else 0)else 160
open Ieee
theorem vN:double.signWeight=9223372036854775808:=by decide
theorem yR:double.binade=4503599627370496:=by decide
theorem yQ:double.infRung=9218868437227405312:=by decide
theorem iY (s:Bool)(m o:Nat):signed s m o=0↔m=0:=by
 have r:2 ^ o≠0:=Nat.ne_of_gt (Nat.two_pow_pos _)
 have h:m<<<o=0↔m=0:=by rw[Nat.shiftLeft_eq,Nat.mul_eq_zero];exact⟨λh=>h.resolve_right r,.inl⟩
 unfold signed
 split <;> omega
theorem tB (x y:Int):((some (compare x y)==some Ordering.eq)=true)↔x=y:=by
 simp
theorem rs (b:Nat):Op.floatEq .f64 b b=decide (b % 9223372036854775808<=9218868437227405312):=by
 show(double.order b b==some .eq)=_
 unfold Format.order Format.read
 rw[vN,yR,yQ]
 dsimp only
 by_cases r:b % 9223372036854775808<4503599627370496
 · rw[if_pos r]
   simp[Datum.order]
   omega
 · rw[if_neg r]
   by_cases o:b % 9223372036854775808<9218868437227405312
   · rw[if_pos o]
     simp[Datum.order]
     omega
   · rw[if_neg o]
     by_cases m:b % 9223372036854775808=9218868437227405312
     · rw[if_pos m]
       simp[Datum.order]
       omega
     · rw[if_neg m]
       simp[Datum.order]
       omega
theorem rq (b:Nat):Op.floatEq .f64 b 0=decide (b % 9223372036854775808=0):=by
 show(double.order b 0==some .eq)=_
 have G:double.read 0=.number false 0 double.leastPlace:=by decide
 unfold Format.order
 rw[G]
 unfold Format.read
 rw[vN,yR,yQ]
 dsimp only
 have o:∀m,signed false 0 m=0:=λm=>(iY _ _ _).2 rfl
 by_cases E:b % 9223372036854775808<4503599627370496
 · rw[if_pos E]
   simp only[Datum.order,o]
   rw[Bool.eq_iff_iff,tB,iY,decide_eq_true_iff]
 · rw[if_neg E]
   by_cases A:b % 9223372036854775808<9218868437227405312
   · rw[if_pos A]
     simp only[Datum.order,o]
     rw[Bool.eq_iff_iff,tB,iY,decide_eq_true_iff]
     omega
   · rw[if_neg A]
     by_cases r:b % 9223372036854775808=9218868437227405312
     · rw[if_pos r]
       simp only[Datum.order]
       split <;> simp <;> omega
     · rw[if_neg r]
       simp[Datum.order]
       omega
def zy (l:List ByteArray):Nat:=(l.map ByteArray.size).sum
def l9 (most:Nat):Nat->List ByteArray->Nat
 | many,[]=>many
 | many,s::l=>if many<=most then l9 most (many+s.size) l else many
theorem sR (most:Nat):∀(l:List ByteArray) (many:Nat),l9 most many l<=most->l9 most many l=many+zy l:=by
 intro l
 induction l with
 | nil=>intro many _;rfl
 | cons s l m=>
   intro many
   unfold l9
   split
   · intro h;rw[m _ h];simp[zy];omega
   · intro h;omega
theorem sT (most K:Nat)(A:140737488351232<=K):∀(l:List ByteArray) (many:Nat),(∀n∈l,n.size<=140737488351232)->many<=most+K->l9 most many l<=most+K:=by
 intro l
 induction l with
 | nil=>intro many _ h;exact h
 | cons s l o=>
   intro many m h
   unfold l9
   split
   · exact o _ (λn r=>m n (List.mem_cons_of_mem _ r)) (by have:=m s (by simp);omega)
   · exact h
def wvL:Vl->Nat->Nat->Nat
 | .nil,_,m=>m
 | .cons h k r,most,m=>if m<=most then wvL r most (m+wvL k (most - m) (l9 (most - m) (1+h.text.size+h.keys.length) h.keys))else m
def wvF (most:Nat)(v:Va):Nat:=wvL v.items most (l9 most (1+v.h.text.size+v.h.keys.length) v.h.keys)
theorem ug (h:Vh)(k r:Vl)(most m:Nat)(o:m<=most):wvL (.cons h k r) most m=wvL r most (m+wvF (most - m) ⟨h,k⟩):=by
 rw[wvL,if_pos o];rfl
theorem pS (t:Vl)(most m:Nat)(h:¬m<=most):wvL t most m=m:=by
 cases t with
 | nil=>rfl
 | cons h k r=>rw[wvL,if_neg (by assumption)]
theorem rM:∀(t:Vl) (most m:Nat),m<=wvL t most m:=by
 intro t
 induction t with
 | nil=>intro most m;exact AG _
 | cons h k r E o=>
   intro most m
   by_cases A:m<=most
   · rw[wvL,if_pos A]
     exact Nat.le_trans (Nat.le_add_right _ _) (o most _)
   · rw[pS _ _ _ A];exact AG _
theorem ya:∀(t:Vl) (most m:Nat),wvL t most m<=most->wvL t most m=m+wgX t:=by
 intro t
 induction t with
 | nil=>intro most m _;rfl
 | cons h k r E A=>
   intro most m o
   by_cases G:m<=most
   · rw[wvL,if_pos G]at o ⊢
     obtain⟨q,I⟩:∃q,l9 (most - m) (1+h.text.size+h.keys.length) h.keys=q:=⟨_,rfl⟩
     obtain⟨p,J⟩:∃p,wvL k (most - m) q=p:=⟨_,rfl⟩
     rw[I,J]at o ⊢
     have O:=rM r most (m+p)
     have N:=rM k (most - m) q
     have M:=E (most - m) q (by omega)
     have K:=sR (most - m) h.keys (1+h.text.size+h.keys.length) (by omega)
     rw[A most _ o]
     unfold zy at K
     simp only[wgX]
     omega
   · rw[pS _ _ _ G]at o;exact absurd o G
theorem yb:∀(t:Vl) (most m:Nat),wfX t->m<=most+422212465053696->wvL t most m<=most+422212465053696:=by
 intro t
 induction t with
 | nil=>intro most m _ h;exact h
 | cons h k r A o=>
   intro most m I M
   obtain⟨⟨-,-,-,-,U,R,N⟩,G,E,K⟩:=I
   by_cases J:m<=most
   · rw[wvL,if_pos J]
     have O:=sT (most - m) 422212465053696 (by omega) h.keys (1+h.text.size+h.keys.length) N (by omega)
     have V:=A (most - m) _ G O
     exact o most _ E (by omega)
   · rw[pS _ _ _ J];exact M
theorem vC (v:Va)(most:Nat)(h:v.h.wf)(m:wfX v.items):wvF most v<=most+422212465053696:=
 yb v.items most _ m (sT most 422212465053696 (by omega) v.h.keys _ h.2.2.2.2.2.2 (by have:=h.2.2.2.2.1;have:=h.2.2.2.2.2.1;omega))
theorem yc (v:Va)(most:Nat)(h:wvF most v<=most):wvF most v=wgX (.cons v.h v.items .nil):=by
 have r:=ya v.items most _ h
 have o:=rM v.items most (l9 most (1+v.h.text.size+v.h.keys.length) v.h.keys)
 have m:=sR most v.h.keys (1+v.h.text.size+v.h.keys.length) (by unfold wvF at h;omega)
 unfold zy at m
 unfold wvF
 simp only[wgX]
 omega
def Vh.sm (h:Vh):Prop:=h.kind<256∧-9223372036854775808<=h.n/\h.n<=9223372036854775807/\h.bits<18446744073709551616/\h.text.size<=16777216/\h.keys.length<=16777216/\∀n∈h.keys,n.size<=16777216
def smX:Vl->Prop
 | .nil=>True
 | .cons h k r=>h.sm/\smX k/\smX r
theorem xf:∀{l:List ByteArray} {n:ByteArray},n∈l->n.size<=(l.map ByteArray.size).sum:=by
 intro l
 induction l with
 | nil=>intro n h;cases h
 | cons x l m=>
   intro n h
   rcases List.mem_cons.1 h with rfl | h
   · simp
   · have:=m h;simp;omega
theorem nw (B:Nat)(hB:B<=16777216):∀t:Vl,wfX t->wgX t<=B->smX t:=by
 intro t
 induction t with
 | nil=>intro _ _;exact trivial
 | cons h k r o m=>
   intro G hw
   simp only[wgX]at hw
   obtain⟨⟨a1,a2,a3,a4,-,-,-⟩,E,A,-⟩:=G
   exact⟨⟨a1,a2,a3,a4,by omega,by omega,λn I=>by have:=xf I;omega⟩,o E (by omega),m A (by omega)⟩
def ff:List Df->ByteArray->Pt
 | [],_=>.nil
 | d::r,n=>if d.name=n then d.kids else ff r n
def m9 (go:Pt->Nat->Rs)(n:ByteArray):List Df->Nat->Rs
 | [],f=>⟨[],f,none⟩
 | d::r,f=>if d.name=n then(go d.kids f).seq (m9 go n r)else m9 go n r f
theorem bl_inj {a b:ByteArray}(h:bl a=bl b):a=b:=by rw[<-gW a,←gW b,h]
theorem ko {d:Df}{r:List Df}(h:twice ((d::r).map λd=>bl d.name)=false):(∀x∈r,x.name≠d.name)/\twice (r.map λd=>bl d.name)=false:=by
 simp only[List.map_cons,twice,Bool.or_eq_false_iff]at h
 refine⟨λx hx e=> ?_,h.2⟩
 have:(r.map λd=>bl d.name).contains (bl d.name)=true:=by
  rw[List.contains_iff_mem]
  exact List.mem_map.2 ⟨x,hx,by rw[e]⟩
 rw[this]at h
 exact absurd h.1 (by decide)
theorem om {n:ByteArray}:∀(l:List Df),(∀x∈l,x.name≠n)->ff l n=.nil
 | [],_=>rfl
 | d::r,h=>by
   rw[ff,if_neg (h d (by simp))]
   exact om r λx hx=>h x (by simp[hx])
theorem oG {go:Pt->Nat->Rs}{n:ByteArray}:∀(l:List Df) (f:Nat),(∀x∈l,x.name≠n)->m9 go n l f=⟨[],f,none⟩
 | [],f,_=>rfl
 | d::r,f,h=>by
   rw[m9,if_neg (h d (by simp))]
   exact oG r f λx hx=>h x (by simp[hx])
theorem mB (a:Rs):(a.seq λf=>⟨[],f,none⟩)=a:=by
 cases a with
 | mk o f e=>
   cases e with
   | some x=>rfl
   | none=>simp[Rs.seq]
theorem mo (go:Pt->Nat->Rs)(m:∀f,go .nil f=⟨[],f,none⟩)(n:ByteArray):∀(l:List Df) (f:Nat),twice (l.map λd=>bl d.name)=false->m9 go n l f=go (ff l n) f
 | [],f,_=>(m f).symm
 | d::r,f,h=>by
   obtain⟨E,A⟩:=ko h
   rw[m9,ff]
   by_cases o:d.name=n
   · subst o
     rw[if_pos rfl,if_pos rfl]
     have:m9 go d.name r=λf=>⟨[],f,none⟩:=funext λg=>oG r g E
     rw[this,mB]
   · rw[if_neg o,if_neg o]
     exact mo go m n r f A
theorem qr {l:List Df}{n:ByteArray}(h:ff l n≠.nil):∃d∈l,d.kids=ff l n:=by
 induction l with
 | nil=>exact absurd rfl h
 | cons d r o=>
   by_cases m:d.name=n
   · exact⟨d,by simp,by rw[ff,if_pos m]⟩
   · have E:ff (d::r) n=ff r n:=by rw[ff,if_neg m]
     rw[E]at h ⊢
     obtain⟨x,hx,A⟩:=o h
     exact⟨x,List.mem_cons_of_mem _ hx,A⟩
def eG (m:Nat)(f:Int):Nat:=(max (min f m) 0).toNat
theorem iF (m:Nat)(f:Int):eG m f<=m:=by unfold eG;omega
def gO:Vl->Nat->Option Nat
 | .nil,m=>some m
 | .cons h k r,m=>if eW h k.len then
    match gO k (if 6<=h.kind then 1 else 0)with
    | none=>none
    | some d=>gO r (max m (d+1))
   else none
def fI (v:Va):Option Nat:=if eW v.h v.items.len then gO v.items (if 6<=v.h.kind then 1 else 0)else none
theorem jR (h:Vh)(k r:Vl)(m:Nat):gO (.cons h k r) m=match fI ⟨h,k⟩with | none=>none | some d=>gO r (max m (d+1)):=by
 rw[gO,fI]
 by_cases o:eW h k.len=true
 · rw[if_pos o];dsimp only;rw[if_pos o]
 · rw[if_neg o];dsimp only;rw[if_neg o]
theorem qW {h:Vh}{n:Nat}(m:eW h n=true):1<=h.kind/\h.kind<=7/\(h.kind<6->n=0):=by
 unfold eW at m
 simp only[Bool.and_eq_true,decide_eq_true_eq]at m
 obtain⟨⟨⟨⟨⟨A,-⟩,-⟩,-⟩,-⟩,o⟩:=m
 refine⟨A.1,A.2,λE=> ?_⟩
 rw[if_neg (by omega)]at o
 simp only[Bool.and_eq_true,Bool.or_eq_true,decide_eq_true_eq]at o
 rcases o.2 with r | r
 · omega
 · exact r
theorem uU {k:Vl}(h:k.len=0):k=.nil:=by
 cases k with
 | nil=>rfl
 | cons _ _ _=>exact absurd h (Nat.succ_ne_zero _)
theorem kB:∀(l:Vl) (m:Nat),1<=m->gO l m=if gE l then some (max m (gR l+1))else none
 | .nil,m,J=>by
   simp only[gO,gE,gR,if_true]
   congr 1
   omega
 | .cons h k r,m,J=>by
   rw[gO,gE,gR]
   by_cases A:eW h k.len=true
   · obtain⟨p1,p2,p3⟩:=qW A
     rw[if_pos A]
     by_cases G:6<=h.kind
     · rw[if_pos G,kB k 1 (AG _),if_pos (show h.kind=6\/h.kind=7 by omega)]
       by_cases E:gE k=true
       · rw[if_pos E]
         dsimp only
         rw[kB r _ (by omega)]
         by_cases o:gE r=true
         · rw[if_pos o,if_pos (by rw[A,E,o];rfl)]
           congr 1
           omega
         · rw[if_neg o,if_neg (by simp[o])]
       · rw[if_neg E]
         dsimp only
         rw[if_neg (by simp[E])]
     · have I:=uU (p3 (by omega))
       subst I
       rw[if_neg G,if_neg (show ¬(h.kind=6\/h.kind=7) by omega),gO]
       dsimp only
       rw[kB r _ (by omega)]
       by_cases o:gE r=true
       · rw[if_pos o,if_pos (by rw[A,o];rfl)]
         congr 1
         omega
       · rw[if_neg o,if_neg (by simp[o])]
   · rw[if_neg A,if_neg (by simp[A])]
theorem qj (v:Va):fI v=if gE (.cons v.h v.items .nil)then some (gR (.cons v.h v.items .nil))else none:=by
 have h:=kB (.cons v.h v.items .nil) 1 (AG _)
 rw[jR]at h
 have r:(⟨v.h,v.items⟩:Va)=v:=rfl
 rw[r]at h
 cases o:fI v with
 | none=>
   rw[o]at h
   dsimp only at h
   by_cases m:gE (.cons v.h v.items .nil)=true
   · rw[if_pos m]at h;cases h
   · rw[if_neg m]
 | some d=>
   rw[o]at h
   simp only[gO]at h
   by_cases m:gE (.cons v.h v.items .nil)=true
   · rw[if_pos m]at h ⊢
     injection h with h
     congr 1
     omega
   · rw[if_neg m]at h;cases h
theorem vs (v:Va):jg v=match fI v with | none=>160 | some d=>if d>64 then 161 else 0:=by
 rw[qj,jg]
 split
 · rfl
 · rfl
def hH (ok:Nat->Prop)(w:World):List Pc->Nat->Nat->Prop
 | [],_,_=>True
 | p::r,b,o=>(w.cell? ⟨b,o,none⟩=some (.int .i64 p.pos)/\w.cell? ⟨b,o+1,none⟩=some (.bool p.hole)/\w.cell? ⟨b,o+2,none⟩=some (.string p.text))/\
   fF ok w (.cons p.val.h p.val.items .nil) b (o+3)/\hH ok w r b (o+10)
def Pcs (ok:Nat->Prop)(w:World)(v:Value)(l:List Pc):Prop:=
 ∃(a:Option Addr) (c:Nat),v=.slice a l.length c/\l.length<=c/\c<=maxLen/\(l≠[]->∃b o,a=some ⟨b,o,none⟩/\ok b/\hH ok w l b o)
theorem hH.kept {ok:Nat->Prop}{w w':World}(A:eL ok w w'):∀(l:List Pc) (b o:Nat),ok b->hH ok w l b o->hH ok w' l b o:=by
 intro l
 induction l with
 | nil=>intro b o _ _;exact trivial
 | cons p r E=>
   intro b o m h
   obtain⟨⟨c0,c1,c2⟩,hx,G⟩:=h
   exact⟨⟨(A.cell m _).trans c0,(A.cell m _).trans c1,(A.cell m _).trans c2⟩,hx.kept A _ _ _ m,E b _ m G⟩
theorem hH.mono {ok ok':Nat->Prop}{w:World}(E:∀b,ok b->ok' b):∀(l:List Pc) (b o:Nat),hH ok w l b o->hH ok' w l b o:=by
 intro l
 induction l with
 | nil=>intro b o _;exact trivial
 | cons p r m=>
   intro b o h
   obtain⟨G,hx,A⟩:=h
   exact⟨G,hx.mono E _ _ _,m b _ A⟩
theorem Pcs.kept {ok:Nat->Prop}{w w':World}{v:Value}{l:List Pc}(h:Pcs ok w v l)(E:eL ok w w'):Pcs ok w' v l:=by
 obtain⟨a,c,r,M,K,J⟩:=h
 refine⟨a,c,r,M,K,λA=> ?_⟩
 obtain⟨b,o,I,m,G⟩:=J A
 exact⟨b,o,I,m,G.kept E _ _ _ m⟩
theorem Pcs.mono {ok ok':Nat->Prop}{w:World}{v:Value}{l:List Pc}(h:Pcs ok w v l)(m:∀b,ok b->ok' b):Pcs ok' w v l:=by
 obtain⟨a,c,r,M,K,J⟩:=h
 refine⟨a,c,r,M,K,λA=> ?_⟩
 obtain⟨b,o,I,G,E⟩:=J A
 exact⟨b,o,I,m b G,E.mono m _ _ _⟩
theorem Pcs.nil (ok:Nat->Prop)(w:World):Pcs ok w (.slice none 0 0) []:=⟨none,0,rfl,AG _,by decide,λh=>absurd rfl h⟩
theorem hH.snoc {ok:Nat->Prop}{w:World}(p:Pc):∀(l:List Pc) (b o:Nat),hH ok w l b o->hH ok w [p] b (o+10*l.length)->hH ok w (l++[p]) b o:=by
 intro l
 induction l with
 | nil=>intro b o _ h;exact h
 | cons x r m=>
   intro b o h G
   obtain⟨E,hx,A⟩:=h
   refine⟨E,hx,m b (o+10) A ?_⟩
   rwa[show o+10+10*r.length=o+10*(r.length+1) by omega]
theorem hH.at {ok:Nat->Prop}{w:World}:∀(l:List Pc) (b o i:Nat) (p:Pc),hH ok w l b o->l[i]? =some p->hH ok w [p] b (o+10*i):=by
 intro l
 induction l with
 | nil=>intro b o i p _ h;simp at h
 | cons x r A=>
   intro b o i p h m
   cases i with
   | zero=>
     simp at m
     subst m
     exact⟨h.1,h.2.1,trivial⟩
   | succ i=>
     have:=A b (o+10) i p h.2.2 (by simpa using m)
     rwa[show o+10*(i+1)=o+10+10*i by omega]
def tm (r:Rs):List Pc×Nat×Int:=match r.err with | none=>(r.out,0,0) | some (e,p)=>(r.out,e,p)
def runT (t:Tm)(v:Va)(fuel calls:Int):List Pc×Nat×Int:=
 if t.check≠0 then([],t.check,0)
 else if jg v≠0 then([],jg v,0)
 else tm (pY (ff t.defs) (eG 256 calls) t.main v (eG 1000000 fuel))
def NoZ (r:Rs):Prop:=∀p,r.err≠some (0,p)
theorem sG {a:Rs}{k:Nat->Rs}(h:NoZ a)(r:∀f,NoZ (k f)):NoZ (a.seq k):=by
 cases m:a.err with
 | some x=>simp only[NoZ,Rs.seq,m];intro p o;exact h p (by rw[m];exact o)
 | none=>simp only[NoZ,Rs.seq,m];exact r _
theorem kA {one:Hd->Pt->Pt->Nat->Rs}(h:∀x k e f,NoZ (one x k e f)):∀l f,NoZ (em one l f)
 | .nil,f=>λp m=>by cases m
 | .cons x k e r,f=>sG (h x k e f) λf=>kA h r f
theorem qh {pos:Int}{f:Nat}{a:Nat->Rs}(h:∀g,NoZ (a g)):NoZ (iu pos f a):=by
 cases f with
 | zero=>intro p m;cases m
 | succ f=>exact h f
theorem nO {pos:Int}{go:Va->Nat->Rs}(h:∀x f,NoZ (go x f)):∀l f,NoZ (eM pos go l f)
 | .nil,f=>λp m=>by cases m
 | .cons x i r,f=>sG (qh λg=>h _ g) λf=>nO h r f
theorem kD:∀(l:List ByteArray) (v:Va) (x:Nat),eU l v=.error x->x=200\/x=201
 | [],v,x,h=>by cases h
 | n::r,v,x,h=>by
   unfold eU at h
   split at h
   · split at h
     · split at h
       · exact kD r _ x h
       · injection h with h;exact .inl h.symm
     · injection h with h;exact .inl h.symm
   · injection h with h;exact .inr h.symm
theorem qg {D:ByteArray->Pt}{C:Nat}:∀n dot root deep h k e f,NoZ (evF D C n dot root deep h k e f)
 | 0,dot,root,deep,h,k,e,f=>λp m=>by cases m
 | n+1,dot,root,deep,h,k,e,f=>by
   have o:∀dot root deep l f,NoZ (em (evF D C n dot root deep) l f):=λdot root deep l f=>kA (λx k e f=>qg n dot root deep x k e f) l f
   simp only[evF]
   refine qh λf=> ?_
   split
   · intro p m;cases m
   · cases r:eU h.names (if h.root=true then root else dot)with
     | error x=>
       intro p m
       have hx:=kD _ _ _ r
       simp only[Option.some.injEq,Prod.mk.injEq]at m
       omega
     | ok v=>
       dsimp only
       split
       · intro p m;cases m
       · split
         · exact o _ _ _ _ _
         · split
           · split
             · split
               · exact o _ _ _ _ _
               · exact nO (λx f=>o _ _ _ _ _) _ _
             · intro p m;cases m
           · split
             · intro p m;cases m
             · exact o _ _ _ _ _
theorem yA {t:Tm}{v:Va}{fuel calls:Int}(o:t.check=0)(m:jg v=0):runT t v fuel calls=tm (pY (ff t.defs) (eG 256 calls) t.main v (eG 1000000 fuel)):=by
 unfold runT
 rw[if_neg (by omega),if_neg (by omega)]
end Go.Proofs.YtepcpgdfbaklfaaGreatDoor.Ev
