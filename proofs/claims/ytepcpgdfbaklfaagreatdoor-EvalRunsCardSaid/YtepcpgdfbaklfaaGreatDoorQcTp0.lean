/- Plain definitions: templates as data; what may be; how a template is written; how a source is read. No program in sight, no condition. -/
import Derived.Lib.ValidU
import Derived.Test.YtepcpgdfbaklfaaGreatDoorQcLib
import Derived.Test.YtepcpgdfbaklfaaGreatDoorShfQ
import Derived.Laws.BytesArg
import Derived.Laws.Rows
import Derived.Laws.IdiomStrings
import Derived.Deep.QuietTactic
import Derived.Deep.RegionWith
import Derived.Deep.DrawnRows
import Derived.BigQuiet
import Derived.IntWalk
import Derived.Deep.AppendLies
namespace Go.Proofs.YtepcpgdfbaklfaaGreatDoor
abbrev By:=List UInt8
structure Hd where
 kind:Nat
 pos:Int
 text:ByteArray
 root:Bool
 names:List ByteArray
 name:ByteArray
inductive Pt where
 | nil:Pt
 | cons (h:Hd) (kids els rest:Pt):Pt
structure Df where
 name:ByteArray
 pos:Int
 kids:Pt
structure Tm where
 main:Pt
 defs:List Df
namespace Pt
def len:Pt->Nat
 | nil=>0
 | cons _ _ _ r=>r.len+1
def app:Pt->Pt->Pt
 | nil,y=>y
 | cons h k e r,y=>cons h k e (r.app y)
def one (h:Hd)(k e:Pt):Pt:=cons h k e nil
theorem app_nil (x:Pt):x.app nil=x:=by induction x with | nil=>rfl | cons h k e r _ _ ih=>simp[app,ih]
theorem app_assoc (x y z:Pt):(x.app y).app z=x.app (y.app z):=by induction x with | nil=>rfl | cons h k e r _ _ ih=>simp[app,ih]
theorem len_app (x y:Pt):(x.app y).len=x.len+y.len:=by
 induction x with
 | nil=>simp[app,len]
 | cons h k e r _ _ m=>simp[app,len,m];omega
def cnt:Pt->Nat
 | nil=>0
 | cons _ k e r=>1+k.cnt+e.cnt+r.cnt
def deep:Pt->Nat
 | nil=>0
 | cons h k e r=>max (if h.kind=3\/h.kind=4 then max (1+k.deep) (1+e.deep)else 0) r.deep
end Pt
def alB (c:UInt8):Bool:=decide (65<=c.toNat/\c.toNat<=90)||decide (97<=c.toNat/\c.toNat<=122)
def dgB (c:UInt8):Bool:=decide (48<=c.toNat/\c.toNat<=57)
def wdB (c:UInt8):Bool:=alB c||dgB c||decide (c=95)
def jG:By->Bool
 | []=>false
 | c::r=>decide (r.length+1<=64)&& !dgB c&&wdB c&&r.all wdB
def kIf:By:=[105,102]
def fX:By:=[101,108,115,101]
def jS:By:=[101,110,100]
def eu:By:=[114,97,110,103,101]
def eY:By:=[99,97,108,108]
def lK:By:=[100,101,102,105,110,101]
def kws:List By:=[kIf,fX,jS,eu,eY,lK]
def eK (s:By):Bool:=jG s&& !kws.contains s
def ex (l:List By):Bool:=l.all jG
def bl (s:ByteArray):By:=s.data.toList
def bls (l:List ByteArray):List By:=l.map bl
def mkB (l:By):ByteArray:=⟨l.toArray⟩
theorem oA (l:By):bl (mkB l)=l:=rfl
theorem gW (s:ByteArray):mkB (bl s)=s:=by simp[mkB,bl]
def eV (p:UInt8->Bool):By->List By
 | []=>[[]]
 | x::r=>if p x then[]::eV p r else match eV p r with
   | h::t=>(x::h)::t
   | []=>[[x]]
def oz (c:UInt8):Bool:=decide (c=9\/c=10\/c=32)
def fG (s:By):List By:=(eV oz s).filter (·≠[])
def vF (root:Bool):By->Option (Bool×List By)
 | 46::r=>if ex (eV (·==46) r)then some (root,eV (·==46) r)else none
 | _=>none
def kH:By->Option (Bool×List By)
 | [46]=>some (false,[])
 | [36]=>some (true,[])
 | 36::r=>vF true r
 | s=>vF false s
def gq (c:UInt8):By->Option (By×By)
 | a::b::r=>if a=c/\b=c then some ([],r)else(gq c (b::r)).map λx=>(a::x.1,x.2)
 | _=>none
structure Fr where
 kind:Nat
 pos:Nat
 root:Bool
 names:List By
 name:By
 els:Bool
 fst:Pt
 kids:Pt
def Fr.main:Fr:=⟨0,0,false,[],[],false,.nil,.nil⟩
structure St where
 top:Fr
 rest:List Fr
 defs:List Df
 many:Nat
 calls:List (By×Nat)
def St.start:St:=⟨Fr.main,[],[],0,[]⟩
inductive Rs (α:Type) where
 | ok (a:α):Rs α
 | err (e at_:Nat):Rs α
def Rs.bind {α β:Type}:Rs α->(α->Rs β)->Rs β
 | .ok a,f=>f a
 | .err e i,_=>.err e i
def St.count (at_:Nat)(s:St):Rs St:=if 1024<s.many+1 then .err 196 at_ else .ok {s with many:=s.many+1}
def St.put (h:Hd)(k e:Pt)(s:St):St:={s with top:={s.top with kids:=s.top.kids.app (.one h k e)}}
def ga (at_:Nat)(x:By):Hd:=⟨1,at_,mkB x,false,[],mkB []⟩
def jv (at_:Nat)(root:Bool)(l:List By):Hd:=⟨2,at_,mkB [],root,l.map mkB,mkB []⟩
def ip (kind at_:Nat)(root:Bool)(l:List By):Hd:=⟨kind,at_,mkB [],root,l.map mkB,mkB []⟩
def iP (at_:Nat)(name:By)(root:Bool)(l:List By):Hd:=⟨5,at_,mkB [],root,l.map mkB,mkB name⟩
def St.add (h:Hd)(at_:Nat)(s:St):Rs St:=(s.count at_).bind λs=>.ok (s.put h .nil .nil)
def St.begin (f:Fr)(at_:Nat)(s:St):Rs St:=if 64<s.rest.length+1 then .err 193 at_ else .ok {s with top:=f,rest:=s.top::s.rest}
def eE (l:List Df)(name:By):Bool:=l.any λd=>bl d.name==name
def St.endA (at_:Nat)(s:St):Rs St:=match s.rest with
 | []=>.err 192 at_
 | f::r=>
   if s.top.kind=6 then .ok {s with top:=f,rest:=r,defs:=s.defs++[⟨mkB s.top.name,s.top.pos,s.top.kids⟩]}
   else .ok (({s with top:=f,rest:=r}:St).put (ip s.top.kind s.top.pos s.top.root s.top.names) (if s.top.els then s.top.fst else s.top.kids) (if s.top.els then s.top.kids else .nil))
def St.elseA (at_:Nat)(s:St):Rs St:=
 if s.rest=[]\/s.top.kind=6\/s.top.els then .err 192 at_
 else .ok {s with top:={s.top with els:=true,fst:=s.top.kids,kids:=.nil}}
def gS (x:By):Bool:=decide (4<=x.length)&&decide (x.take 2=[47,42])&&decide (x.drop (x.length - 2)=[42,47])
def act1 (w:By)(at_:Nat)(s:St):Rs St:=
 if w=jS then s.endA at_ else if w=fX then s.elseA at_ else match kH w with
  | none=>.err 190 at_
  | some p=>s.add (jv at_ p.1 p.2) at_
def act2 (w x:By)(at_:Nat)(s:St):Rs St:=
 if w=kIf\/w=eu then match kH x with
  | none=>.err 190 at_
  | some p=>(s.begin ⟨if w=kIf then 3 else 4,at_,p.1,p.2,[],false,.nil,.nil⟩ at_).bind λs=>s.count at_
 else if w=lK then
  if eK x=false\/s.rest≠[]then .err 190 at_
  else if eE s.defs x then .err 194 at_
  else s.begin ⟨6,at_,false,[],x,false,.nil,.nil⟩ at_
 else .err 190 at_
def act3 (w x y:By)(at_:Nat)(s:St):Rs St:=
 if w=eY then match kH y with
  | none=>.err 190 at_
  | some p=>if eK x=false then .err 190 at_ else
    (s.count at_).bind λs=>.ok (({s with calls:=s.calls++[(x,at_)]}:St).put (iP at_ x p.1 p.2) .nil .nil)
 else .err 190 at_
def action (x:By)(at_:Nat)(s:St):Rs St:=
 if gS x then .ok s else match fG x with
  | [w]=>act1 w at_ s
  | [w,x]=>act2 w x at_ s
  | [w,x,y]=>act3 w x y at_ s
  | _=>.err 190 at_
def readF:Nat->By->Nat->St->Rs St
 | 0,_,_,s=>.ok s
 | f+1,x,at_,s=>
   if x=[]then .ok s else match gq 123 x with
   | none=>s.add (ga at_ x) at_
   | some (a,r)=>
     (if a=[]then .ok s else s.add (ga at_ a) at_).bind λs=>match gq 125 r with
       | none=>.err 191 (at_+a.length)
       | some (i,m)=>(action i (at_+a.length) s).bind λs=>readF f m (at_+a.length+i.length+4) s
def gi (defs:List Df):List (By×Nat)->Option Nat
 | []=>none
 | c::r=>if eE defs c.1 then gi defs r else some c.2
def gY (n:Nat)(s:St):Rs Tm:=
 if s.rest≠[]then .err 192 n else match gi s.defs s.calls with
  | some at_=>.err 195 at_
  | none=>.ok ⟨s.top.kids,s.defs⟩
def jr (m:By->Option Nat)(x:By):Rs Tm:=
 if 16384<x.length then .err 196 0 else match m x with
  | some i=>.err 197 i
  | none=>(readF x.length x 0 St.start).bind (gY x.length)
def jZ (x:By)(m:Bool):Bool:= !x.isEmpty&&Lib.validD x&&(gq 123 x).isNone&&(m||decide (x.getLast?≠some 123))
def Pt.isNil:Pt->Bool
 | .nil=>true
 | _=>false
def gj (h:Hd)(kids els:Pt)(m:Bool):Bool:=
 if h.kind=1 then jZ (bl h.text) m&& !h.root&&h.names.isEmpty&&(bl h.name).isEmpty&&kids.isNil&&els.isNil
 else if h.kind=2 then ex (bls h.names)&&(bl h.text).isEmpty&&(bl h.name).isEmpty&&kids.isNil&&els.isNil
 else if h.kind=3\/h.kind=4 then ex (bls h.names)&&(bl h.text).isEmpty&&(bl h.name).isEmpty
 else if h.kind=5 then ex (bls h.names)&&(bl h.text).isEmpty&&eK (bl h.name)&&kids.isNil&&els.isNil
 else false
def Pt.form:Bool->Pt->Bool
 | _,.nil=>true
 | m,.cons h k e r=>gj h k e (m&&r.isNil)&&(if h.kind=3\/h.kind=4 then Pt.form false k&&Pt.form false e else true)&&Pt.form m r
def Pt.called (defs:List Df):Pt->Bool
 | .nil=>true
 | .cons h k e r=>(decide (h.kind≠5)||eE defs (bl h.name))&&k.called defs&&e.called defs&&r.called defs
def li:List By->By
 | []=>[]
 | n::l=>46::n++li l
def AJ (root:Bool)(l:List By):By:=if l=[]/\root=false then[46]else(if root then[36]else[])++li l
def bra:By:=[123,123]
def ket:By:=[125,125]
def js:By:=[123,123,47,42,42,47,125,125]
def gx:By:=[123,123,101,110,100,125,125]
def eI:By:=[123,123,101,108,115,101,125,125]
def Pt.src:Bool->Pt->By
 | _,.nil=>[]
 | m,.cons h k e r=>
   (if h.kind=1 then(if m then js else[])++bl h.text
    else if h.kind=2 then bra++AJ h.root (bls h.names)++ket
    else if h.kind=5 then bra++(eY++32::bl h.name++32::AJ h.root (bls h.names))++ket
    else if h.kind=3\/h.kind=4 then
     bra++((if h.kind=4 then eu else kIf)++32::AJ h.root (bls h.names))++ket++Pt.src false k++(if e.isNil then[]else eI++Pt.src false e)++gx
    else[])++Pt.src (decide (h.kind=1)) r
def kq (d:Df):By:=bra++(lK++32::bl d.name)++ket++d.kids.src false++gx
def Tm.src (t:Tm):By:=t.defs.flatMap kq++t.main.src false
def twice:List By->Bool
 | []=>false
 | n::l=>l.contains n||twice l
def Tm.check (t:Tm):Nat:=
 if(t.main.form true&&t.defs.all λd=>eK (bl d.name)&&d.kids.form false)=false then 190
 else if 64<max t.main.deep ((t.defs.map λd=>1+d.kids.deep).foldr max 0)then 193
 else if twice (t.defs.map λd=>bl d.name)then 194
 else if(t.main.called t.defs&&t.defs.all λd=>d.kids.called t.defs)=false then 195
 else if 1024<t.main.cnt+(t.defs.map λd=>d.kids.cnt).sum\/16384<t.src.length then 196
 else 0
set_option linter.unusedVariables false
open Go.RowKit Go.Shelf
theorem dY {w:World}{b:Nat}{cs:Array Value}{T:TypeId}(m:w.heap[b]? =some (.cells cs T (0,0))):∀j,w.frozen? ⟨b,j,none⟩=false:=by
 intro j
 simp[World.frozen?,m]
theorem dX {w:World}{b:Nat}{o:Obj}(h:w.heap[b]? =some o):b<w.heap.size:=(Array.getElem?_eq_some_iff.1 h).1
theorem ej {w:World}{a:Addr}{v:Value}(h:w.cell? a=some v):a.block<w.heap.size:=by
 rcases Nat.lt_or_ge a.block w.heap.size with m | m
 · exact m
 · simp[World.cell?,Array.getElem?_eq_none m]at h
def Sh (w:World):Prop:=∃m,w.cell? ⟨2,0,none⟩=some (.int .i64 m)
theorem Sh.lt {w:World}(h:Sh w):2<w.heap.size:=by
 obtain⟨m,o⟩:=h
 exact ej o
theorem Sh.below {w w':World}(h:Sh w)(r:Below w.heap.size w w'):Sh w':=by
 obtain⟨m,o⟩:=h
 exact⟨m,(r.cell (p:=⟨2,0,none⟩) (Sh.lt ⟨m,o⟩)).trans o⟩
theorem nx {w:World}(h:w.ShapedOpen Tryz.prog):Sh w:=Lb.Mn143.s1_3 w h
def Gd (w:World):Prop:=Sh w/\rK w
theorem Gd.below {w w':World}(h:Gd w)(m:Below w.heap.size w w'):Gd w':=⟨h.1.below m,h.2.below m⟩
theorem Gd.later {w w':World}{B:Nat}(h:Gd w)(m:Below B w w')(hB:w.heap.size<=B):Gd w':=h.below (m.mono hB)
theorem qw (s:ByteArray)(k:Nat)(m:k<s.size):s.data.toList.getD k 0=s[k]:=by
 unfold List.getD
 rw[List.getElem?_eq_getElem (by simpa using m)];rfl
theorem Calls.wide {f:FuncId}{args:Array Value}{w:World}{R m:Ending->World->Prop}(h:Calls Tryz.prog f args w R)(o:∀e w',R e w'->m e w'):Calls Tryz.prog f args w m:=h.mono o
def UnF (w:World)(b:Nat):Prop:=∀j,w.frozen? ⟨b,j,none⟩=false
theorem UnF.same {w w':World}{b:Nat}(h:UnF w b)(m:w'.heap[b]? =w.heap[b]?):UnF w' b:=λj=>(World.frozen?_of_block (w:=w) m).trans (h j)
def Strs (ok:Nat->Prop)(w:World)(v:Value)(l:List ByteArray):Prop:=
 ∃(a:Option Addr) (c:Nat),v=.slice a l.length c/\l.length<=c/\c<=maxLen/\(l≠[]->∃b o,a=some ⟨b,o,none⟩/\ok b/\∀i s,l[i]? =some s->w.cell? ⟨b,o+i,none⟩=some (.string s))
def Row (ok:Nat->Prop)(w:World):Pt->Nat->Nat->Prop
 | .nil,_,_=>True
 | .cons h k e r,b,o=>
   (w.cell? ⟨b,o,none⟩=some (.int .u8 (h.kind:Nat))/\w.cell? ⟨b,o+1,none⟩=some (.int .i64 h.pos)/\w.cell? ⟨b,o+2,none⟩=some (.string h.text)/\w.cell? ⟨b,o+3,none⟩=some (.bool h.root)/\
     (∃v,w.cell? ⟨b,o+4,none⟩=some v/\Strs ok w v h.names)/\w.cell? ⟨b,o+5,none⟩=some (.string h.name))/\
   (∃(a:Option Addr) (c:Nat),w.cell? ⟨b,o+6,none⟩=some (.slice a k.len c)/\k.len<=c/\c<=maxLen/\(k≠.nil->∃m A,a=some ⟨m,A,none⟩/\ok m/\Row ok w k m A))/\
   (∃(a:Option Addr) (c:Nat),w.cell? ⟨b,o+7,none⟩=some (.slice a e.len c)/\e.len<=c/\c<=maxLen/\(e≠.nil->∃m A,a=some ⟨m,A,none⟩/\ok m/\Row ok w e m A))/\
   Row ok w r b (o+8)
def d8 (ok:Nat->Prop)(w:World)(v:Value)(t:Pt):Prop:=
 ∃(a:Option Addr) (c:Nat),v=.slice a t.len c/\t.len<=c/\c<=maxLen/\(t≠.nil->∃b o,a=some ⟨b,o,none⟩/\ok b/\Row ok w t b o)
def eL (ok:Nat->Prop)(w w':World):Prop:=∀b,ok b->w'.heap[b]? =w.heap[b]?
theorem eL.cell {ok:Nat->Prop}{w w':World}(h:eL ok w w'){b:Nat}(m:ok b)(o:Nat):w'.cell? ⟨b,o,none⟩=w.cell? ⟨b,o,none⟩:=World.cell?_of_block (w:=w) (h b m)
theorem eL.of_below {B:Nat}{w w':World}(h:Below B w w'):eL (·<B) w w':=λb m=>h.block b m
theorem eL.trans {ok:Nat->Prop}{a b c:World}(h:eL ok a b)(k:eL ok b c):eL ok a c:=λx hx=>(k x hx).trans (h x hx)
theorem Strs.kept {ok:Nat->Prop}{w w':World}{v:Value}{l:List ByteArray}(h:Strs ok w v l)(E:eL ok w w'):Strs ok w' v l:=by
 obtain⟨a,c,r,N,M,K⟩:=h
 refine⟨a,c,r,N,M,λA=> ?_⟩
 obtain⟨b,o,J,m,I⟩:=K A
 exact⟨b,o,J,m,λi s G=>(E.cell m _).trans (I i s G)⟩
theorem Row.kept {ok:Nat->Prop}{w w':World}(m:eL ok w w'):∀(t:Pt) (b o:Nat),ok b->Row ok w t b o->Row ok w' t b o:=by
 intro t
 induction t with
 | nil=>intro b o _ _;exact trivial
 | cons h k e r M N K=>
   intro b o A hr
   obtain⟨⟨c0,c1,c2,c3,⟨v,c4,Z⟩,c5⟩,⟨ak,ck,c6,Y,W,V⟩,⟨ae,ce,c7,e1,e2,e3⟩,E⟩:=hr
   refine⟨⟨(m.cell A _).trans c0,(m.cell A _).trans c1,(m.cell A _).trans c2,(m.cell A _).trans c3,⟨v,(m.cell A _).trans c4,Z.kept m⟩,(m.cell A _).trans c5⟩,
    ⟨ak,ck,(m.cell A _).trans c6,Y,W,λO=> ?_⟩,⟨ae,ce,(m.cell A _).trans c7,e1,e2,λO=> ?_⟩,K b _ A E⟩
   · obtain⟨J,G,U,I,R⟩:=V O
     exact⟨J,G,U,I,M J G I R⟩
   · obtain⟨J,G,U,I,R⟩:=e3 O
     exact⟨J,G,U,I,N J G I R⟩
theorem d8.kept {ok:Nat->Prop}{w w':World}{v:Value}{t:Pt}(h:d8 ok w v t)(E:eL ok w w'):d8 ok w' v t:=by
 obtain⟨a,c,r,M,K,J⟩:=h
 refine⟨a,c,r,M,K,λA=> ?_⟩
 obtain⟨b,o,I,m,G⟩:=J A
 exact⟨b,o,I,m,G.kept E _ _ _ m⟩
theorem Strs.mono {ok ok':Nat->Prop}{w:World}{v:Value}{l:List ByteArray}(h:Strs ok w v l)(A:∀b,ok b->ok' b):Strs ok' w v l:=by
 obtain⟨a,c,m,M,K,J⟩:=h
 refine⟨a,c,m,M,K,λr=> ?_⟩
 obtain⟨b,o,I,G,E⟩:=J r
 exact⟨b,o,I,A b G,E⟩
theorem Row.mono {ok ok':Nat->Prop}{w:World}(M:∀b,ok b->ok' b):∀(t:Pt) (b o:Nat),Row ok w t b o->Row ok' w t b o:=by
 intro t
 induction t with
 | nil=>intro b o _;exact trivial
 | cons h k e r I J G=>
   intro b o Z
   obtain⟨⟨c0,c1,c2,c3,⟨v,c4,Y⟩,c5⟩,⟨ak,ck,c6,W,V,U⟩,⟨ae,ce,c7,e1,e2,e3⟩,m⟩:=Z
   refine⟨⟨c0,c1,c2,c3,⟨v,c4,Y.mono M⟩,c5⟩,⟨ak,ck,c6,W,V,λK=> ?_⟩,⟨ae,ce,c7,e1,e2,λK=> ?_⟩,G b _ m⟩
   · obtain⟨E,A,R,O,N⟩:=U K
     exact⟨E,A,R,M _ O,I E A N⟩
   · obtain⟨E,A,R,O,N⟩:=e3 K
     exact⟨E,A,R,M _ O,J E A N⟩
theorem d8.mono {ok ok':Nat->Prop}{w:World}{v:Value}{t:Pt}(h:d8 ok w v t)(m:∀b,ok b->ok' b):d8 ok' w v t:=by
 obtain⟨a,c,r,M,K,J⟩:=h
 refine⟨a,c,r,M,K,λA=> ?_⟩
 obtain⟨b,o,I,G,E⟩:=J A
 exact⟨b,o,I,m b G,E.mono m _ _ _⟩
theorem Strs.nil (ok:Nat->Prop)(w:World):Strs ok w (.slice none 0 0) []:=⟨none,0,rfl,AG _,by decide,λh=>absurd rfl h⟩
theorem d8.nil (ok:Nat->Prop)(w:World):d8 ok w (.slice none 0 0) .nil:=⟨none,0,rfl,AG _,by decide,λh=>absurd rfl h⟩
def Hd.wf (h:Hd):Prop:=h.kind<256∧-9223372036854775808<=h.pos/\h.pos<=9223372036854775807/\h.text.size<=140737488351232/\h.name.size<=140737488351232/\h.names.length<=140737488351232/\∀n∈h.names,n.size<=140737488351232
def Pt.wf:Pt->Prop
 | .nil=>True
 | .cons h k e r=>h.wf/\k.wf/\e.wf/\r.wf/\k.len<=140737488351232/\e.len<=140737488351232
theorem ue {W m:World}{o:Obj}(h:W.alloc o=m):Below W.heap.size W m/\m.heap.size=W.heap.size+1/\m.heap[W.heap.size]? =some o:=by
 subst h
 exact⟨(AH _ W).alloc (AG _) _,by simp,heap_alloc_new W _⟩
theorem qx {W m:World}{o p:Obj}(h:(W.alloc o).alloc p=m):Below W.heap.size W m/\m.heap.size=W.heap.size+2/\m.heap[W.heap.size]? =some o/\m.heap[W.heap.size+1]? =some p:=by
 obtain⟨J,G,I⟩:=ue (rfl:W.alloc o=_)
 obtain⟨E,r,A⟩:=ue h
 rw[G]at r A
 exact⟨J.trans (E.mono (by omega)),r,(E.block _ (by omega)).trans I,A⟩
theorem As {W m:World}{o p q:Obj}(h:((W.alloc o).alloc p).alloc q=m):Below W.heap.size W m/\m.heap.size=W.heap.size+3/\m.heap[W.heap.size]? =some o/\m.heap[W.heap.size+1]? =some p/\m.heap[W.heap.size+2]? =some q:=by
 obtain⟨J,G,I,m1⟩:=qx (rfl:(W.alloc o).alloc p=_)
 obtain⟨r,A,E⟩:=ue h
 rw[G]at A E
 exact⟨J.trans (r.mono (by omega)),A,(r.block _ (by omega)).trans I,(r.block _ (by omega)).trans m1,E⟩
inductive Tk where
 | txt (x:By):Tk
 | act (x:By):Tk
def Tk.ren:Tk->By
 | .txt x=>x
 | .act x=>bra++x++ket
def runT:List Tk->Nat->St->Rs St
 | [],_,s=>.ok s
 | .txt x::l,at_,s=>(s.add (ga at_ x) at_).bind λs=>runT l (at_+x.length) s
 | .act x::l,at_,s=>(action x at_ s).bind λs=>runT l (at_+x.length+4) s
theorem Rs.ok_bind {α β:Type}(a:α)(f:α->Rs β):(Rs.ok a).bind f=f a:=rfl
theorem fN (c:UInt8):∀(s a r:By),gq c s=some (a,r)->s=a++c::c::r/\gq c a=none/\a.getLast?≠some c
 | [],a,r,h=>by simp[gq]at h
 | [_],a,r,h=>by simp[gq]at h
 | x::y::s,a,r,h=>by
   unfold gq at h
   split at h
   · rename_i o
     obtain⟨rfl,rfl⟩:=o
     simp at h
     obtain⟨rfl,rfl⟩:=h
     simp[gq]
   · rename_i o
     cases A:gq c (y::s)with
     | none=>rw[A]at h;cases h
     | some q=>
       rw[A]at h
       simp at h
       obtain⟨rfl,rfl⟩:=h
       obtain⟨e,E,G⟩:=fN c (y::s) q.1 q.2 A
       refine⟨by rw[e];simp,?_,?_⟩
       · cases m:q.1 with
         | nil=>rfl
         | cons z l=>
           rw[m]at e E
           have I:z=y:=by simp at e;exact e.1.symm
           unfold gq
           rw[I]at E ⊢
           rw[if_neg o,E];rfl
       · cases m:q.1 with
         | nil=>
           rw[m]at e
           simp at e
           intro J
           have:x=c:=by simpa using J
           exact o ⟨this,e.1⟩
         | cons z l=>rw[m]at G;simpa using G
theorem ig (f at_:Nat)(s:St):readF f [] at_ s=.ok s:=by cases f <;> simp[readF]
theorem qV (f g:Nat):∀(x:By) (at_:Nat) (s:St),x.length<=f->x.length<=g->readF f x at_ s=readF g x at_ s:=by
 induction f generalizing g with
 | zero=>
   intro x at_ s E A
   obtain rfl:x=[]:=List.length_eq_zero_iff.1 (by omega)
   rw[ig,ig]
 | succ f o=>
   intro x at_ s E A
   by_cases hx:x=[]
   · subst hx;rw[ig,ig]
   cases g with
   | zero=>exact absurd (List.length_eq_zero_iff.1 (by omega)) hx
   | succ g=>
     unfold readF
     rw[if_neg hx,if_neg hx]
     cases I:gq 123 x with
     | none=>rfl
     | some q=>
       obtain⟨a,r⟩:=q
       obtain⟨e,-,-⟩:=fN _ _ _ _ I
       dsimp only
       congr 1;funext s'
       cases G:gq 125 r with
       | none=>rfl
       | some q2=>
         obtain⟨i,J⟩:=q2
         obtain⟨m,-,-⟩:=fN _ _ _ _ G
         dsimp only
         congr 1;funext s''
         apply o
         · have:=congrArg List.length e;have:=congrArg List.length m;simp at*;omega
         · have:=congrArg List.length e;have:=congrArg List.length m;simp at*;omega
def Hd.era (h:Hd):Hd:={h with pos:=0}
def Pt.era:Pt->Pt
 | .nil=>.nil
 | .cons h k e r=>.cons h.era k.era e.era r.era
theorem kL (p:UInt8->Bool)(a:By)(h:∀x∈a,p x=false):eV p a=[a]:=by
 induction a with
 | nil=>rfl
 | cons x a m=>
   unfold eV
   rw[if_neg (by simp[h x (by simp)]),m (λy o=>h y (List.mem_cons_of_mem _ o))]
theorem kM (p:UInt8->Bool)(a b:By)(x:UInt8)(h:∀y∈a,p y=false)(hx:p x=true):eV p (a++x::b)=a::eV p b:=by
 induction a with
 | nil=>simp[eV,hx]
 | cons y a m=>
   rw[List.cons_append,eV,if_neg (by simp[h y (by simp)]),m (λz o=>h z (List.mem_cons_of_mem _ o))]
def zx (a:By):Prop:=∀x∈a,oz x=false
theorem ye (a:By)(h:zx a)(m:a≠[]):fG a=[a]:=by
 unfold fG;rw[kL _ _ h];simp[m]
def St.grow (s:St)(l:Pt)(n:Nat)(cs:List (By×Nat)):St:={s with top:={s.top with kids:=s.top.kids.app l},many:=s.many+n,calls:=s.calls++cs}
theorem nW (e:Pt):e.isNil=true↔e=.nil:=by cases e <;> simp[Pt.isNil]
def Ok (m:Nat->Nat)(w:World)(b:Nat):Prop:=m b=0/\b<w.heap.size/\UnF w b
def gA (C:Nat->Prop)(o m:Nat->Nat)(w w':World):Prop:=w.heap.size<=w'.heap.size/\∀b,b<w.heap.size->C (o b)->m b=o b/\w'.heap[b]? =w.heap[b]?
theorem gA.mono {C r:Nat->Prop}{o m:Nat->Nat}{w w':World}(h:gA C o m w w')(A:∀c,r c->C c):gA r o m w w':=⟨h.1,λb E k=>h.2 b E (A _ k)⟩
theorem gA.keptOk {C:Nat->Prop}{o m:Nat->Nat}{w w':World}(h:gA C o m w w')(A:C 0):eL (Ok o w) w w':=λb r=>(h.2 b r.2.1 (by rw[r.1];exact A)).2
theorem gA.okOk {C:Nat->Prop}{r m:Nat->Nat}{w w':World}(h:gA C r m w w')(A:C 0):∀b,Ok r w b->Ok m w' b:=λb o=>
 ⟨(h.2 b o.2.1 (by rw[o.1];exact A)).1.trans o.1,AI o.2.1 h.1,o.2.2.same (h.2 b o.2.1 (by rw[o.1];exact A)).2⟩
theorem gA.strs {C:Nat->Prop}{o m:Nat->Nat}{w w':World}(h:gA C o m w w')(r:C 0){v:Value}{l:List ByteArray}(A:Strs (Ok o w) w v l):Strs (Ok m w') w' v l:=
 (A.kept (h.keptOk r)).mono (h.okOk r)
theorem gA.parts {C:Nat->Prop}{o m:Nat->Nat}{w w':World}(h:gA C o m w w')(r:C 0){v:Value}{t:Pt}(A:d8 (Ok o w) w v t):d8 (Ok m w') w' v t:=
 (A.kept (h.keptOk r)).mono (h.okOk r)
def tW (B:Nat)(m:Nat->Nat)(w:World)(c:Nat)(T:TypeId)(o:Nat)(v:Value)(n:Nat)(cs:List Value):Prop:=w.ownsRow B T o v n cs/\∀g,v.ownBlock=some g->m g=c
theorem tW.same {C:Nat->Prop}{B:Nat}{o m:Nat->Nat}{w w':World}{c:Nat}{T:TypeId}{K:Nat}{v:Value}{n:Nat}{cs:List Value}(O:gA C o m w w')(U:C c)(h:tW B o w c T K v n cs):tW B m w' c T K v n cs:=by
 obtain⟨⟨N,G⟩,V⟩:=h
 rcases G with G | ⟨g,cap,J,I,hB,A,R⟩
 · exact⟨⟨N,.inl G⟩,λg A=>by rw[G.1]at A;cases A⟩
 · have E:o g=c:=V g (by rw[I];rfl)
   have M:=O.2 g (dX A) (by rw[E];exact U)
   refine⟨⟨N,.inr ⟨g,cap,J,I,hB,M.2.trans A,R⟩⟩,λW r=> ?_⟩
   have:g=W:=by rw[I]at r;simpa[Value.ownBlock]using r
   subst this
   exact M.1.trans E
def iI (ok:Nat->Prop)(w:World):Pt->List Value->Prop
 | .nil,cs=>cs=[]
 | .cons h k e r,cs=>∃o A E m,cs=[.int .u8 (h.kind:Nat),.int .i64 h.pos,.string h.text,.bool h.root,o,.string h.name,A,E]++m/\Strs ok w o h.names/\d8 ok w A k/\d8 ok w E e/\iI ok w r m
theorem iI.same {C:Nat->Prop}{o m:Nat->Nat}{w w':World}(A:gA C o m w w')(E:C 0):∀(t:Pt) (cs:List Value),iI (Ok o w) w t cs->iI (Ok m w') w' t cs:=by
 intro t
 induction t with
 | nil=>intro cs h;exact h
 | cons h k e r _ _ M=>
   rintro cs ⟨I,J,K,G,rfl,U,R,O,N⟩
   exact⟨I,J,K,G,rfl,A.strs E U,A.parts E R,A.parts E O,M _ N⟩
theorem iI.app {ok:Nat->Prop}{w:World}:∀(x y:Pt) (cs m:List Value),iI ok w x cs->iI ok w y m->iI ok w (x.app y) (cs++m):=by
 intro x
 induction x with
 | nil=>intro y cs m A o;obtain rfl:cs=[]:=A;exact o
 | cons h k e r _ _ K=>
   rintro y cs m ⟨G,I,J,E,rfl,A,o,O,N⟩ M
   exact⟨G,I,J,E++m,by simp,A,o,O,K _ _ _ N M⟩
theorem iI.len {ok:Nat->Prop}{w:World}:∀(x:Pt) (cs:List Value),iI ok w x cs->cs.length=x.len*8:=by
 intro x
 induction x with
 | nil=>intro cs h;obtain rfl:cs=[]:=h;rfl
 | cons h k e r _ _ m=>
   rintro cs ⟨E,G,I,A,rfl,M,K,J,o⟩
   have:=m _ o
   simp only[List.length_append,List.length_cons,List.length_nil,Pt.len];omega
def oO (B:Nat)(m:Nat->Nat)(w:World)(c:Nat)(o:Value)(t:Pt):Prop:=∃cs,tW B m w c 56 8 o t.len cs/\iI (Ok m w) w t cs
theorem oO.same {C:Nat->Prop}{B:Nat}{o m:Nat->Nat}{w w':World}{c:Nat}{r:Value}{t:Pt}(A:gA C o m w w')(J:C 0)(E:C c)(h:oO B o w c r t):oO B m w' c r t:=by
 obtain⟨cs,I,G⟩:=h
 exact⟨cs,I.same A E,iI.same A J _ _ G⟩
theorem oO.nil (B:Nat)(m:Nat->Nat)(w:World)(c:Nat):oO B m w c (.slice none 0 0) .nil:=⟨[],⟨World.ownsRow_nil _ _ _ _,λg h=>by cases h⟩,rfl⟩
theorem iI.row {ok:Nat->Prop}{w:World}:∀(t:Pt) (cs:List Value) (b o:Nat),iI ok w t cs->(∀j u,cs[j]? =some u->w.cell? ⟨b,o+j,none⟩=some u)->Row ok w t b o:=by
 intro t
 induction t with
 | nil=>intro cs b o _ _;exact trivial
 | cons h k e r _ _ K=>
   rintro cs b o ⟨E,vk,ve,A,rfl,U,R,O,N⟩ m
   obtain⟨ak,ck,rfl,J,I,G⟩:=R
   obtain⟨ae,Z,rfl,Y,W,V⟩:=O
   refine⟨⟨m 0 _ rfl,m 1 _ rfl,m 2 _ rfl,m 3 _ rfl,⟨E,m 4 _ rfl,U⟩,m 5 _ rfl⟩,⟨ak,ck,m 6 _ rfl,J,I,G⟩,⟨ae,Z,m 7 _ rfl,Y,W,V⟩,K A b (o+8) N (λj u M=> ?_)⟩
   have:=m (8+j) u (by rw[List.getElem?_append_right (by simp)];simpa using M)
   rwa[show o+(8+j)=o+8+j by omega]at this
theorem oO.parts {B:Nat}{o:Nat->Nat}{w:World}{I:Value}{t:Pt}(h:oO B o w 0 I t):d8 (Ok o w) w I t:=by
 obtain⟨cs,⟨⟨V,R⟩,O⟩,N⟩:=h
 rcases R with⟨rfl,M⟩ | ⟨g,cap,U,rfl,hB,G,E,m,K,J⟩
 · cases t with
   | nil=>exact d8.nil _ _
   | cons h k e r=>simp[Pt.len]at M
 · refine⟨_,_,rfl,E,m,λ_=>⟨g,0,rfl,⟨O g rfl,dX G,dY G⟩,iI.row t cs g 0 N (λj u A=> ?_)⟩⟩
   rw[Nat.zero_add,dW G,←Array.getElem?_toList]
   rw[<-J,List.getElem?_take]at A
   split at A
   · exact A
   · cases A
def frCells (f:Fr)(m o r:Value):Array Value:=#[.int .u8 ((if f.kind=6 then 0 else f.kind:Nat):Nat),.int .i64 ((if f.kind=6 then 0 else f.pos:Nat):Nat),.string ⟨#[]⟩,.bool f.root,m,.string ⟨#[]⟩,o,.slice none 0 0,
 .string (mkB f.name),.int .i64 ((if f.kind=6 then f.pos else 0:Nat):Nat),.slice none 0 0,.bool (f.kind==6),.bool f.els,r]
def FrM (B:Nat)(m:Nat->Nat)(w:World)(q i o:Nat)(f:Fr):Prop:=
 B<=o/\m o=5+2*i/\f.kids.len<=q/\∃r A E,w.heap[o]? =some (.cells (frCells f r A E) 100 (0,0))/\Strs (Ok m w) w r (f.names.map mkB)/\d8 (Ok m w) w A f.fst/\oO B m w (6+2*i) E f.kids
theorem FrM.same {C:Nat->Prop}{B:Nat}{o m:Nat->Nat}{w w':World}{q q' i E:Nat}{f:Fr}(r:gA C o m w w')(A:C 0)(O:C (5+2*i))(N:C (6+2*i))(M:q<=q')(h:FrM B o w q i E f):FrM B m w' q' i E f:=by
 obtain⟨a,b,c,I,J,K,d,e,g,k⟩:=h
 have G:=r.2 E (dX d) (by rw[b];exact O)
 exact⟨a,G.1.trans b,Nat.le_trans c M,I,J,K,G.2.trans d,r.strs A e,r.parts A g,k.same r A N⟩
def gZ (B:Nat)(m:Nat->Nat)(w:World)(q:Nat):List Fr->List Nat->Prop
 | [],A=>A=[]
 | f::r,A=>∃E o,A=E::o/\FrM B m w q r.length E f/\gZ B m w q r o
theorem gZ.same {C:Nat->Prop}{B:Nat}{o m:Nat->Nat}{w w':World}{q q':Nat}(J:gA C o m w w')(O:C 0)(K:q<=q'):∀(l:List Fr) (E:List Nat),(∀i,i<l.length->C (5+2*i)/\C (6+2*i))->gZ B o w q l E->gZ B m w' q' l E:=by
 intro l
 induction l with
 | nil=>intro E _ h;exact h
 | cons f r I=>
   rintro E G ⟨R,A,rfl,N,M⟩
   exact⟨R,A,rfl,N.same J O (G r.length (by simp)).1 (G r.length (by simp)).2 K,I A (λi U=>G i (by simp;omega)) M⟩
theorem gZ.len {B:Nat}{o:Nat->Nat}{w:World}{q:Nat}:∀(l:List Fr) (m:List Nat),gZ B o w q l m->m.length=l.length:=by
 intro l
 induction l with
 | nil=>intro m h;obtain rfl:m=[]:=h;rfl
 | cons f r E=>
   rintro m ⟨I,A,rfl,-,G⟩
   simp[E A G]
def fw (ok:Nat->Prop)(w:World):List Df->List Value->Prop
 | [],cs=>cs=[]
 | d::r,cs=>∃v m,cs=[.string d.name,.int .i64 d.pos,v]++m/\d8 ok w v d.kids/\fw ok w r m
theorem fw.same {C:Nat->Prop}{o m:Nat->Nat}{w w':World}(G:gA C o m w w')(K:C 0):∀(t:List Df) (cs:List Value),fw (Ok o w) w t cs->fw (Ok m w') w' t cs:=by
 intro t
 induction t with
 | nil=>intro cs h;exact h
 | cons d r E=>
   rintro cs ⟨v,A,rfl,J,I⟩
   exact⟨v,A,rfl,G.parts K J,E _ I⟩
theorem fw.app {ok:Nat->Prop}{w:World}:∀(x y:List Df) (cs m:List Value),fw ok w x cs->fw ok w y m->fw ok w (x++y) (cs++m):=by
 intro x
 induction x with
 | nil=>intro y cs m o J;obtain rfl:cs=[]:=o;exact J
 | cons d r E=>
   rintro y cs m ⟨v,A,rfl,o,I⟩ G
   exact⟨v,A++m,by simp,o,E _ _ _ I G⟩
def rH (B:Nat)(m:Nat->Nat)(w:World)(o:Value)(l:List Df):Prop:=∃cs,tW B m w 3 70 3 o l.length cs/\fw (Ok m w) w l cs
theorem rH.same {C:Nat->Prop}{B:Nat}{o m:Nat->Nat}{w w':World}{A:Value}{l:List Df}(r:gA C o m w w')(J:C 0)(E:C 3)(h:rH B o w A l):rH B m w' A l:=by
 obtain⟨cs,I,G⟩:=h
 exact⟨cs,I.same r E,fw.same r J _ _ G⟩
def kw:List (By×Nat)->List Value->Prop
 | [],cs=>cs=[]
 | c::r,cs=>∃root va vl vc m,cs=[.int .u8 5,.int .i64 (c.2:Nat),.string ⟨#[]⟩,.bool root,.slice va vl vc,.string (mkB c.1),.slice none 0 0,.slice none 0 0]++m/\kw r m
theorem kw.app:∀(x y:List (By×Nat)) (cs m:List Value),kw x cs->kw y m->kw (x++y) (cs++m):=by
 intro x
 induction x with
 | nil=>intro y cs m J I;obtain rfl:cs=[]:=J;exact I
 | cons d r A=>
   rintro y cs m ⟨a,v,vl,vc,o,rfl,G⟩ E
   exact⟨a,v,vl,vc,o++m,by simp,A _ _ _ G E⟩
theorem kw.at:∀(l:List (By×Nat)) (cs:List Value) (j:Nat) (c:By×Nat),l[j]? =some c->kw l cs->
 ∃root va vl vc,cs[j*8]? =some (.int .u8 5)/\cs[j*8+1]? =some (.int .i64 (c.2:Nat))/\cs[j*8+2]? =some (.string ⟨#[]⟩)/\cs[j*8+3]? =some (.bool root)/\cs[j*8+4]? =some (.slice va vl vc)/\cs[j*8+5]? =some (.string (mkB c.1))/\cs[j*8+6]? =some (.slice none 0 0)/\cs[j*8+7]? =some (.slice none 0 0):=by
 intro l
 induction l with
 | nil=>intro cs j c h;simp at h
 | cons d r R=>
   rintro cs j c h ⟨root,va,vl,vc,A,rfl,V⟩
   cases j with
   | zero=>
     simp at h;subst h
     exact⟨root,va,vl,vc,rfl,rfl,rfl,rfl,rfl,rfl,rfl,rfl⟩
   | succ j=>
     obtain⟨a,b,e,f,k⟩:=R A j c (by simpa using h) V
     refine⟨a,b,e,f,?_⟩
     have o:∀m u,A[m]? =some u->([.int .u8 5,.int .i64 (d.2:Nat),.string ⟨#[]⟩,.bool root,.slice va vl vc,.string (mkB d.1),.slice none 0 0,.slice none 0 0]++A)[8+m]? =some u:=by
      intro m u U
      rw[List.getElem?_append_right (by simp)]
      simpa using U
     have W:(j+1)*8=8+j*8:=by omega
     rw[W]
     obtain⟨O,N,M,K,J,I,G,E⟩:=k
     exact⟨o _ _ O,o _ _ N,o _ _ M,o _ _ K,o _ _ J,o _ _ I,o _ _ G,o _ _ E⟩
def qJ (B:Nat)(m:Nat->Nat)(w:World)(o:Value)(l:List (By×Nat)):Prop:=∃cs,tW B m w 4 56 8 o l.length cs/\kw l cs
theorem qJ.same {C:Nat->Prop}{B:Nat}{o m:Nat->Nat}{w w':World}{r:Value}{l:List (By×Nat)}(A:gA C o m w w')(E:C 4)(h:qJ B o w r l):qJ B m w' r l:=by
 obtain⟨cs,I,G⟩:=h
 exact⟨cs,I.same A E,G⟩
def vK (m:List Nat):List Value:=m.reverse.map λb=>.pointer (some ⟨b,0,none⟩)
def ij (m o:Value)(many:Nat)(r:Value):Array Value:=#[m,.slice none 0 0,o,.int .i64 (many:Nat),r]
structure RdG (B q bx:Nat)(s:St)(col:Nat->Nat)(bs:List Nat)(sv dv cv:Value)(w:World):Prop where
 bb:B<=bx
 cx:col bx=1
 hx:w.heap[bx]? =some (.cells (ij sv dv s.many cv) 103 (0,0))
 st:tW B col w 2 98 1 sv (s.rest.length+1) (vK bs)
 fr:gZ B col w q (s.top::s.rest) bs
 df:rH B col w dv s.defs
 cl:qJ B col w cv s.calls
 l1:s.many<=1024
 l2:s.rest.length<=64
 l3:s.defs.length<=q
 l4:s.calls.length<=q
 hB:B<=w.heap.size
 ol:∀b,b<B->col b=1
theorem sB {w:World}{B n m A g c:Nat}{e:TypeId}{r:List Value}(h:w.ownsRow B e A (.slice (some ⟨g,0,none⟩) n c) m r):B<=g:=by
 rcases h.2 with⟨G,-⟩ | ⟨J,cap,I,o,E,-⟩
 · cases G
 · injection o with o
   injection o with o
   injection o with o
   rw[o];exact E
def RdM (B q bx:Nat)(s:St)(w:World):Prop:=∃m E o r A,RdG B q bx s m E o r A w
def ew (B q bx:Nat)(w:World)(r:Rs St)(e:Ending)(w':World):Prop:=Below B w w'/\match r with
 | .ok s=>e=.returned (.tuple #[])/\RdM B q bx s w'
 | .err n p=>e=.panicked [{v:=.iface 84 (.agg #[.int .i64 (n:Nat),.int .i64 (p:Nat)]),recovered:=false}]
end Go.Proofs.YtepcpgdfbaklfaaGreatDoor
