/- The library's contracts that lie proved yG any program, at this seat's numbers: one renaming, and that this program bears the bodies and the types. Written by mklib.py. No condition. -/
import Derived.Shelf.Strings.BuilderK
import Derived.Shelf.Strings.Shaped
import Derived.Shelf.Small.Strs
import Derived.Shelf.Unicode.DecodeAny
import Derived.Test.YtepcpgdfbaklfaaGreatDoorProg
import Derived.Calls
import Derived.Lib.Strings
import Derived.WalkKit
import Derived.WalkSpells
import Derived.WalkLawsBesides
import Derived.Lib.Hide
import Derived.Outline
import Derived.Deep.RegionWith
import Derived.RangeFuncNested
import Derived.RangeFuncBound
import Derived.RangeFuncCalls
import Derived.RangeFuncLeaves
import Derived.Shelf.Abstract
import Derived.Shelf.RegionOpen
import Derived.OwnWalkIn
import Derived.TacticsInMore
import Derived.LoopNIn
import Derived.LoopIn
namespace Go.Proofs.YtepcpgdfbaklfaaGreatDoor
open Go.Shelf
def Lb.ren:Ren:=⟨fun | 143=>139 | 166=>67 | 169=>69 | 197=>116 | 217=>147 | 219=>118 | 224=>149 | 225=>148 | 240=>109 | 260=>146 | 266=>156 | 267=>150 | 276=>141 | 314=>157 | n=>n,fun | 0=>0 | 3=>3 | 4=>4 | 5=>5 | 9=>9 | 20=>20 | 21=>21 | 37=>134 | 46=>195 | 51=>211 | 70=>133 | 72=>136 | 75=>64 | 80=>140 | 105=>173 | 119=>191 | 127=>170 | 138=>193 | 139=>194 | 146=>212 | 164=>188 | n=>n,fun | 1=>2 | 3=>0 | 4=>1 | n=>n⟩
theorem Lb.n166:Go.Proofs.Lays.n166 Tryz.prog Lb.ren:={
 mixed:=by kernel_rfl
 f166:=Tryz.func67.trans (congrArg some (by kernel_rfl))
 f240:=Tryz.func109.trans (congrArg some (by kernel_rfl))
 f276:=Tryz.func141.trans (congrArg some (by kernel_rfl))
 t0:=Tryz.underlying0
 a0:=Tryz.isAgg0
 z0:=Tryz.sizeOf0
 v0:=Tryz.zeroValue0
 t3:=Tryz.underlying3
 a3:=Tryz.isAgg3
 z3:=Tryz.sizeOf3
 v3:=Tryz.zeroValue3
 t4:=Tryz.underlying4
 a4:=Tryz.isAgg4
 z4:=Tryz.sizeOf4
 v4:=Tryz.zeroValue4
 t9:=Tryz.underlying9
 a9:=Tryz.isAgg9
 z9:=Tryz.sizeOf9
 v9:=Tryz.zeroValue9
 t20:=Tryz.underlying20
 a20:=Tryz.isAgg20
 z20:=Tryz.sizeOf20
 v20:=Tryz.zeroValue20
 t37:=Tryz.underlying134
 a37:=Tryz.isAgg134
 z37:=Tryz.sizeOf134
 v37:=Tryz.zeroValue134
 t70:=Tryz.underlying133
 a70:=Tryz.isAgg133
 z70:=Tryz.sizeOf133
 v70:=Tryz.zeroValue133
 t72:=Tryz.underlying136
 a72:=Tryz.isAgg136
 z72:=Tryz.sizeOf136
 v72:=Tryz.zeroValue136
 t75:=Tryz.underlying64
 a75:=Tryz.isAgg64
 z75:=Tryz.sizeOf64
 v75:=Tryz.zeroValue64
 t164:=Tryz.underlying188
 a164:=Tryz.isAgg188
 z164:=Tryz.sizeOf188
 v164:=Tryz.zeroValue188}
theorem Lb.n169:Go.Proofs.Lays.n169 Tryz.prog Lb.ren:={
 mixed:=by kernel_rfl
 f169:=Tryz.func69.trans (congrArg some (by kernel_rfl))
 t0:=Tryz.underlying0
 a0:=Tryz.isAgg0
 z0:=Tryz.sizeOf0
 v0:=Tryz.zeroValue0
 t3:=Tryz.underlying3
 a3:=Tryz.isAgg3
 z3:=Tryz.sizeOf3
 v3:=Tryz.zeroValue3
 t9:=Tryz.underlying9
 a9:=Tryz.isAgg9
 z9:=Tryz.sizeOf9
 v9:=Tryz.zeroValue9
 t37:=Tryz.underlying134
 a37:=Tryz.isAgg134
 z37:=Tryz.sizeOf134
 v37:=Tryz.zeroValue134
 t70:=Tryz.underlying133
 a70:=Tryz.isAgg133
 z70:=Tryz.sizeOf133
 v70:=Tryz.zeroValue133
 t72:=Tryz.underlying136
 a72:=Tryz.isAgg136
 z72:=Tryz.sizeOf136
 v72:=Tryz.zeroValue136
 t127:=Tryz.underlying170
 a127:=Tryz.isAgg170
 z127:=Tryz.sizeOf170
 v127:=Tryz.zeroValue170}
theorem Lb.n197:Go.Proofs.Lays.n197 Tryz.prog Lb.ren:={
 mixed:=by kernel_rfl
 f197:=Tryz.func116.trans (congrArg some (by kernel_rfl))
 f260:=Tryz.func146.trans (congrArg some (by kernel_rfl))
 t0:=Tryz.underlying0
 a0:=Tryz.isAgg0
 z0:=Tryz.sizeOf0
 v0:=Tryz.zeroValue0
 t3:=Tryz.underlying3
 a3:=Tryz.isAgg3
 z3:=Tryz.sizeOf3
 v3:=Tryz.zeroValue3
 t4:=Tryz.underlying4
 a4:=Tryz.isAgg4
 z4:=Tryz.sizeOf4
 v4:=Tryz.zeroValue4
 t5:=Tryz.underlying5
 a5:=Tryz.isAgg5
 z5:=Tryz.sizeOf5
 v5:=Tryz.zeroValue5
 t9:=Tryz.underlying9
 a9:=Tryz.isAgg9
 z9:=Tryz.sizeOf9
 v9:=Tryz.zeroValue9
 t21:=Tryz.underlying21
 a21:=Tryz.isAgg21
 z21:=Tryz.sizeOf21
 v21:=Tryz.zeroValue21
 t46:=Tryz.underlying195
 a46:=Tryz.isAgg195
 z46:=Tryz.sizeOf195
 v46:=Tryz.zeroValue195
 t105:=Tryz.underlying173
 a105:=Tryz.isAgg173
 z105:=Tryz.sizeOf173
 v105:=Tryz.zeroValue173
 t119:=Tryz.underlying191
 a119:=Tryz.isAgg191
 z119:=Tryz.sizeOf191
 t138:=Tryz.underlying193
 a138:=Tryz.isAgg193
 z138:=Tryz.sizeOf193
 v138:=Tryz.zeroValue193
 t139:=Tryz.underlying194
 a139:=Tryz.isAgg194
 z139:=Tryz.sizeOf194
 v139:=Tryz.zeroValue194
 g3:=by kernel_rfl
 g4:=by kernel_rfl}
theorem Lb.Mn143:Go.Proofs.LaysM.n143 Tryz.prog Lb.ren:={
 mixed:=by kernel_rfl
 f143:=Tryz.func139.trans (congrArg some (by kernel_rfl))
 f217:=Tryz.func147.trans (congrArg some (by kernel_rfl))
 f219:=Tryz.func118.trans (congrArg some (by kernel_rfl))
 f224:=Tryz.func149.trans (congrArg some (by kernel_rfl))
 f225:=Tryz.func148.trans (congrArg some (by kernel_rfl))
 f266:=Tryz.func156.trans (congrArg some (by kernel_rfl))
 f267:=Tryz.func150.trans (congrArg some (by kernel_rfl))
 f314:=Tryz.func157.trans (congrArg some (by kernel_rfl))
 t3:=Tryz.underlying3
 a3:=Tryz.isAgg3
 z3:=Tryz.sizeOf3
 v3:=Tryz.zeroValue3
 t4:=Tryz.underlying4
 a4:=Tryz.isAgg4
 z4:=Tryz.sizeOf4
 v4:=Tryz.zeroValue4
 t5:=Tryz.underlying5
 a5:=Tryz.isAgg5
 z5:=Tryz.sizeOf5
 v5:=Tryz.zeroValue5
 t9:=Tryz.underlying9
 a9:=Tryz.isAgg9
 z9:=Tryz.sizeOf9
 v9:=Tryz.zeroValue9
 t46:=Tryz.underlying195
 a46:=Tryz.isAgg195
 z46:=Tryz.sizeOf195
 v46:=Tryz.zeroValue195
 t51:=Tryz.underlying211
 a51:=Tryz.isAgg211
 z51:=Tryz.sizeOf211
 v51:=Tryz.zeroValue211
 t146:=Tryz.underlying212
 a146:=Tryz.isAgg212
 z146:=Tryz.sizeOf212
 v146:=Tryz.zeroValue212
 g1:=by kernel_rfl
 i3:=by kernel_rfl
 i4:=by kernel_rfl
 i5:=by kernel_rfl
 i9:=by kernel_rfl
 i46:=by kernel_rfl
 i51:=by kernel_rfl
 i146:=by kernel_rfl
 m1:=by kernel_rfl
 s1_3:=λw h=>cell_of_shapedOpen_int (zero:=#[.int .i64 0]) (t:=3) h (of_decide_eq_true (by kernel_rfl)) (by kernel_rfl) rfl (by kernel_rfl) (by kernel_rfl) Tryz.underlying3}
theorem Lb.extra:Builder.Extra Tryz.prog Lb.ren:={
 sizeBuilder:=by kernel_rfl
 liesBuilder:=by kernel_rfl
 t5:=Tryz.underlying5
 a5:=Tryz.isAgg5
 z5:=Tryz.sizeOf5
 v5:=Tryz.zeroValue5
 infoByte:=by kernel_rfl
 cellsByte:=by kernel_rfl
 sizeByte:=by kernel_rfl
 neB5:=by decide}
theorem dZ {a b:Bool}(h:a=b):Ending.returned (.bool a)=.returned (.bool b):=by rw[h]
theorem jN {a b:Int}(h:a=b):Ending.returned (.int .i64 a)=.returned (.int .i64 b):=by rw[h]
def nd (c:Nat):Nat:=if c<194 then 0 else if c<224 then 1 else if c<240 then 2 else if c<=244 then 3 else 0
def okf (c:Nat):Bool:=decide (c<128\/(194<=c/\c<=244))
def lof (c:Nat):Nat:=if c=224 then 160 else if c=240 then 144 else 128
def hif (c:Nat):Nat:=if c=237 then 159 else if c=244 then 143 else 191
def pcg:Nat->Nat->Nat->List UInt8->Nat->Nat×Bool
 | 0,_,_,_,n=>(n,true)
 | _+1,_,_,[],n=>(n,false)
 | k+1,m,o,x::r,n=>if m<=x.toNat/\x.toNat<=o then pcg k 128 191 r (n+1)else(n,false)
def pc:List UInt8->Nat×Bool
 | []=>(0,false)
 | c::r=>if okf c.toNat then pcg (nd c.toNat) (lof c.toNat) (hif c.toNat) r 1 else(1,false)
theorem zM (c:Nat):nd c<=3:=by unfold nd;(repeat' split) <;> omega
theorem sj (k m o:Nat)(r:List UInt8)(n:Nat):n<=(pcg k m o r n).1/\(pcg k m o r n).1<=n+r.length/\(pcg k m o r n).1<=n+k:=by
 induction k generalizing m o r n with
 | zero=>simp[pcg]
 | succ k A=>
   match r with
   | []=>simp[pcg]
   | x::r=>
     unfold pcg
     split
     · have:=A 128 191 r (n+1);simp;omega
     · simp
theorem uJ (l:List UInt8)(h:l≠[]):1<=(pc l).1/\(pc l).1<=l.length/\(pc l).1<=4:=by
 match l,h with
 | c::r,_=>
   have e:pc (c::r)=if okf c.toNat then pcg (nd c.toNat) (lof c.toNat) (hif c.toNat) r 1 else(1,false):=rfl
   rw[e]
   split
   · have o:=sj (nd c.toNat) (lof c.toNat) (hif c.toNat) r 1
     have m:=zM c.toNat
     simp only[List.length_cons]
     omega
   · simp
set_option linter.unusedVariables false
open Go.RowKit
theorem dW {w:World}{b:Nat}{cs:Array Value}{T:TypeId}{fr:Nat×Nat}(m:w.heap[b]? =some (.cells cs T fr))(j:Nat):w.cell? ⟨b,j,none⟩=cs[j]? :=by
 simp[World.cell?,m]
theorem set3 {w:World}{b:Nat}{x y z:Value}{T:TypeId}{fr:Nat×Nat}(h:w.heap[b]? =some (.cells #[x,y,z] T fr))(r o m:Value):
 (((w.setCell ⟨b,0,none⟩ r).setCell ⟨b,1,none⟩ o).setCell ⟨b,2,none⟩ m).heap[b]? =some (.cells #[r,o,m] T fr):=by
 simp[World.setCell,Array.getElem?_modify,h]
open Go.RowKit Go.Shelf
attribute [local go_sem] Oper.semAt_some
def rn (l:List UInt8):Int:=if(pc l).2 then((Lib.decodeGo ⟨l.toArray⟩).1:Int)else 65533
def clp (r:Int):Int:=if 0<=r/\r<=2147483647 then r else 65533
theorem uG (l:List UInt8):0<=rn l/\rn l<=2147483647:=by
 unfold rn
 split
 · unfold Lib.decodeGo
   split
   · omega
   · have:=decode_le ⟨l.toArray⟩ 0
     omega
 · omega
def rK (w:World):Prop:=Lib.Utf8Tabs 0 1 w
theorem rK.kept {w w':World}(h:rK w)(A:w'.heap[(0:Nat)]? =w.heap[(0:Nat)]?)(o:w'.heap[(1:Nat)]? =w.heap[(1:Nat)]?):rK w':=by
 refine⟨λc r=> ?_,λi m=>⟨?_,?_⟩⟩
 · rw[World.cell?_of_block (w:=w) A];exact h.1 c r
 · rw[World.cell?_of_block (w:=w) o];exact(h.2 i m).1
 · rw[World.cell?_of_block (w:=w) o];exact(h.2 i m).2
theorem rK.lt {w:World}(h:rK w):0<w.heap.size/\1<w.heap.size:=by
 have o:=h.1 0 (by omega)
 have m:=(h.2 0 (by omega)).1
 constructor
 · rcases Nat.lt_or_ge 0 w.heap.size with h | h
   · exact h
   · simp[World.cell?,Array.getElem?_eq_none h]at o
 · rcases Nat.lt_or_ge 1 w.heap.size with h | h
   · exact h
   · simp[World.cell?,Array.getElem?_eq_none h]at m
theorem rK.below {w w':World}(h:rK w)(m:Below w.heap.size w w'):rK w':=h.kept (m.block _ h.lt.1) (m.block _ h.lt.2)
theorem lL {A B:World}(h:Below A.heap.size A B):A.grownBy B none:=⟨h.os,h.tape,h.output,h.size,λk m _=>h.block k m⟩
theorem AF {p:Prop}(h:p):Hid p:=Lib.hid h
theorem AG (n:Nat):n<=n:=Nat.le_refl n
theorem AI {a b c:Nat}(h:a<b)(k:b<=c):a<c:=Nat.lt_of_lt_of_le h k
theorem AH (B:Nat)(w:World):Below B w w:=Below.refl B w
end Go.Proofs.YtepcpgdfbaklfaaGreatDoor
