/-
  DERIVED:THE SHELF's CONTRACTS AT THIS DUMP,IN PLAIN WORDS (tools/lay-plain.mjs out of 'TryzShelf.lean',which tools/lay-shelf.mjs wrote):THE SAME DECLARATIONS UNDER THE SAME NAMES:'import','namespace','open','def','theorem' AND NOTHING ELSE:no command of the shelf's:FOR A HAND-IN. Each laying:the table of numbers ('.._ren') and one theorem,a field a fact of the dump's own or the kernel's comparison;each contract:ONE APPLICATION.
-/
import Derived.Shelf.Strings.Builder1
import Derived.Shelf.Strings.Builder2
import Derived.Shelf.Strings.OnBuilder
import Derived.Shelf.Small.Wraps
import Derived.Shelf.Strings.BuilderF
import Derived.Shelf.Strings.BuilderK
import Derived.Shelf.Strings.Builder2Cap
import Derived.Shelf.Strings.Search1
import Derived.Shelf.Strings.Search2
import Derived.Shelf.Strings.Search3
import Derived.Shelf.Strings.Cut
import Derived.Shelf.Strings.Count
import Derived.Shelf.LaysM
import Derived.Shelf.Strings.Shaped
import Derived.Shelf.GgClosure.StringsIndexFunc
import Derived.Ground.GgwProg
import Derived.Shelf.GgClosure.StringsIndexFuncTop
import Derived.Shelf.GgClosure.StringsRunes
import Derived.Shelf.Strings.Prefix
import Derived.Shelf.Strings.Split
import Derived.Shelf.Strings.SplitShaped
import Derived.Shelf.Unicode.Decode
import Derived.Shelf.Strings.RuneCount
import Derived.Shelf.Strings.Explode
import Derived.Shelf.Unicode.DecodeSlow
import Derived.Shelf.Unicode.DecodeAny
import Derived.Shelf.Strings.FieldsFuncAny
import Derived.Shelf.Strings.FuncGrows
import Derived.Shelf.Strings.FieldsFuncGrows
import Derived.Shelf.Strings.BuilderCap
import Derived.Shelf.Slices.Turned
import Derived.Test.YtepcpgdfbaklfaaGreatDoorProg
namespace Go.Proofs
open Go.Shelf
def Tryz.lays156_ren:Go.Shelf.Ren:=⟨fun | 156=>111 | 165=>142 | 166=>67 | 169=>69 | 240=>109 | 241=>155 | 276=>141 | 277=>162 | n=>n,fun | 31=>28 | 9=>9 | 3=>3 | 4=>4 | 0=>0 | 20=>20 | 72=>136 | 76=>137 | 70=>133 | 37=>134 | 75=>64 | 127=>170 | 164=>188 | 5=>5 | 80=>140 | n=>n,fun | n=>n⟩
theorem Tryz.lays156:Go.Proofs.Lays.n156 Tryz.prog Tryz.lays156_ren:={
  mixed:=by kernel_rfl
  f156:=Tryz.func111.trans (congrArg some (by kernel_rfl))
  f165:=Tryz.func142.trans (congrArg some (by kernel_rfl))
  f166:=Tryz.func67.trans (congrArg some (by kernel_rfl))
  f169:=Tryz.func69.trans (congrArg some (by kernel_rfl))
  f240:=Tryz.func109.trans (congrArg some (by kernel_rfl))
  f241:=Tryz.func155.trans (congrArg some (by kernel_rfl))
  f276:=Tryz.func141.trans (congrArg some (by kernel_rfl))
  f277:=Tryz.func162.trans (congrArg some (by kernel_rfl))
  t0:=Tryz.underlying0
  a0:=Tryz.isAgg0
  z0:=Tryz.sizeOf0
  v0:=Tryz.zeroValue0
  t3:=Tryz.underlying3
  a3:=Tryz.isAgg3
  z3:=Tryz.sizeOf3
  v3:=Tryz.zeroValue3
  t4:=Tryz.underlying4
  a4:=Tryz.isAgg4
  z4:=Tryz.sizeOf4
  v4:=Tryz.zeroValue4
  t9:=Tryz.underlying9
  a9:=Tryz.isAgg9
  z9:=Tryz.sizeOf9
  v9:=Tryz.zeroValue9
  t20:=Tryz.underlying20
  a20:=Tryz.isAgg20
  z20:=Tryz.sizeOf20
  v20:=Tryz.zeroValue20
  t31:=Tryz.underlying28
  a31:=Tryz.isAgg28
  z31:=Tryz.sizeOf28
  v31:=Tryz.zeroValue28
  t37:=Tryz.underlying134
  a37:=Tryz.isAgg134
  z37:=Tryz.sizeOf134
  v37:=Tryz.zeroValue134
  t70:=Tryz.underlying133
  a70:=Tryz.isAgg133
  z70:=Tryz.sizeOf133
  v70:=Tryz.zeroValue133
  t72:=Tryz.underlying136
  a72:=Tryz.isAgg136
  z72:=Tryz.sizeOf136
  v72:=Tryz.zeroValue136
  t75:=Tryz.underlying64
  a75:=Tryz.isAgg64
  z75:=Tryz.sizeOf64
  v75:=Tryz.zeroValue64
  t76:=Tryz.underlying137
  a76:=Tryz.isAgg137
  z76:=Tryz.sizeOf137
  v76:=Tryz.zeroValue137
  t127:=Tryz.underlying170
  a127:=Tryz.isAgg170
  z127:=Tryz.sizeOf170
  v127:=Tryz.zeroValue170
  t164:=Tryz.underlying188
  a164:=Tryz.isAgg188
  z164:=Tryz.sizeOf188
  v164:=Tryz.zeroValue188}
theorem Tryz.Builder_Extra_156:Builder.Extra Tryz.prog Tryz.lays156_ren:={
  sizeBuilder:=by kernel_rfl
  liesBuilder:=by kernel_rfl
  t5:=Tryz.underlying5
  a5:=Tryz.isAgg5
  z5:=Tryz.sizeOf5
  v5:=Tryz.zeroValue5
  infoByte:=by kernel_rfl
  cellsByte:=by kernel_rfl
  sizeByte:=by kernel_rfl
  neB5:=by decide}
open Go.RowKit in
/-- strings.Join: "Join concatenates the elements of its first argument to create a single string. The separator string m is placed between elements in the resulting string.": HOWEVER MANY ELEMENTS. Below the heap's end the world is as it was. (LAID: no walk: one application.) -/
theorem Tryz.strings_Join (I o c:Nat)(A:List ByteArray)(m:ByteArray)(w:World)(r:∀(j:Nat) x,A[j]? =some x->w.cell? ⟨I,o+j,none⟩=some (.string x))(J:I<w.heap.size)(K:A.length<=140737488355328)(G:A.length<=c)(E:(Lib.join (A.map (·.data.toList)) m.data.toList).length<=140737488355328):
    Calls Tryz.prog 111 #[.slice (some ⟨I,o,none⟩) A.length c,.string m] w λe w'=>e=.returned (.string ⟨(Lib.join (A.map (·.data.toList)) m.data.toList).toArray⟩)/\Below w.heap.size w w':=Any.strings_Join Tryz.lays156 Tryz.Builder_Extra_156 I o c A m w r J K G E
def Tryz.lays103_ren:Go.Shelf.Ren:=⟨fun | 103=>78 | 210=>119 | 206=>117 | n=>n,fun | 9=>9 | 4=>4 | 24=>149 | 3=>3 | n=>n,fun | n=>n⟩
theorem Tryz.lays103:Go.Proofs.Lays.n103 Tryz.prog Tryz.lays103_ren:={
  mixed:=by kernel_rfl
  f103:=Tryz.func78.trans (congrArg some (by kernel_rfl))
  f206:=Tryz.func117.trans (congrArg some (by kernel_rfl))
  f210:=Tryz.func119.trans (congrArg some (by kernel_rfl))
  t3:=Tryz.underlying3
  a3:=Tryz.isAgg3
  z3:=Tryz.sizeOf3
  v3:=Tryz.zeroValue3
  t4:=Tryz.underlying4
  a4:=Tryz.isAgg4
  z4:=Tryz.sizeOf4
  v4:=Tryz.zeroValue4
  t9:=Tryz.underlying9
  a9:=Tryz.isAgg9
  z9:=Tryz.sizeOf9
  v9:=Tryz.zeroValue9
  t24:=Tryz.underlying149
  a24:=Tryz.isAgg149
  z24:=Tryz.sizeOf149
  v24:=Tryz.zeroValue149}
open Go.RowKit in
/-- strings.CutPrefix: "CutPrefix returns s without the provided leading prefix string and reports whether it found the prefix. If s doesn't start with prefix, CutPrefix returns s, false. If prefix is the empty string, CutPrefix returns s, true.": IT RETURNS '(Lib.trimPrefix s p, Lib.hasPrefix s p)'; the world is as it was. (LAID: no walk: one application.) -/
theorem Tryz.strings_CutPrefix (s p:ByteArray)(w:World):
    Calls Tryz.prog 78 #[.string s,.string p] w λe w'=>e=.returned (.tuple #[.string ⟨(Lib.trimPrefix s.data.toList p.data.toList).toArray⟩,.bool (Lib.hasPrefix s.data.toList p.data.toList)])/\w'=w:=Any.strings_CutPrefix Tryz.lays103 s p w
def Tryz.lays144_ren:Go.Shelf.Ren:=⟨fun | 144=>104 | 143=>139 | 219=>118 | 217=>147 | 225=>148 | 224=>149 | 267=>150 | 266=>156 | 314=>157 | n=>n,fun | 9=>9 | 4=>4 | 3=>3 | 5=>5 | 46=>195 | 146=>212 | 51=>211 | n=>n,fun | 1=>2 | n=>n⟩
theorem Tryz.lays144:Go.Proofs.Lays.n144 Tryz.prog Tryz.lays144_ren:={
  mixed:=by kernel_rfl
  f143:=Tryz.func139.trans (congrArg some (by kernel_rfl))
  f144:=Tryz.func104.trans (congrArg some (by kernel_rfl))
  f217:=Tryz.func147.trans (congrArg some (by kernel_rfl))
  f219:=Tryz.func118.trans (congrArg some (by kernel_rfl))
  f224:=Tryz.func149.trans (congrArg some (by kernel_rfl))
  f225:=Tryz.func148.trans (congrArg some (by kernel_rfl))
  f266:=Tryz.func156.trans (congrArg some (by kernel_rfl))
  f267:=Tryz.func150.trans (congrArg some (by kernel_rfl))
  f314:=Tryz.func157.trans (congrArg some (by kernel_rfl))
  t3:=Tryz.underlying3
  a3:=Tryz.isAgg3
  z3:=Tryz.sizeOf3
  v3:=Tryz.zeroValue3
  t4:=Tryz.underlying4
  a4:=Tryz.isAgg4
  z4:=Tryz.sizeOf4
  v4:=Tryz.zeroValue4
  t5:=Tryz.underlying5
  a5:=Tryz.isAgg5
  z5:=Tryz.sizeOf5
  v5:=Tryz.zeroValue5
  t9:=Tryz.underlying9
  a9:=Tryz.isAgg9
  z9:=Tryz.sizeOf9
  v9:=Tryz.zeroValue9
  t46:=Tryz.underlying195
  a46:=Tryz.isAgg195
  z46:=Tryz.sizeOf195
  v46:=Tryz.zeroValue195
  t51:=Tryz.underlying211
  a51:=Tryz.isAgg211
  z51:=Tryz.sizeOf211
  v51:=Tryz.zeroValue211
  t146:=Tryz.underlying212
  a146:=Tryz.isAgg212
  z146:=Tryz.sizeOf212
  v146:=Tryz.zeroValue212
  g1:=by kernel_rfl}
open Go.RowKit Go.Lib in
/-- strings.Contains: "Contains reports whether substr is within s.": IT RETURNS 'Lib.contains s substr'; the world is as it was. (LAID: no walk: one application.) -/
theorem Tryz.strings_Contains (s o:ByteArray)(m:Int)(w:World)(r:s.size<4294967281)(A:w.cell? ⟨2,0,none⟩=some (.int .i64 m)):
    Calls Tryz.prog 104 #[.string s,.string o] w λe w'=>e=.returned (.bool (Lib.contains s.data.toList o.data.toList))/\w'=w:=Any.strings_Contains Tryz.lays144 s o m w r A
def Tryz.lays145_ren:Go.Shelf.Ren:=⟨fun | 145=>45 | 220=>75 | 219=>118 | 217=>147 | 225=>148 | 224=>149 | 267=>150 | 266=>156 | 314=>157 | n=>n,fun | 9=>9 | 4=>4 | 59=>104 | 3=>3 | 5=>5 | 46=>195 | 146=>212 | 51=>211 | n=>n,fun | 1=>2 | n=>n⟩
theorem Tryz.lays145:Go.Proofs.Lays.n145 Tryz.prog Tryz.lays145_ren:={
  mixed:=by kernel_rfl
  f145:=Tryz.func45.trans (congrArg some (by kernel_rfl))
  f217:=Tryz.func147.trans (congrArg some (by kernel_rfl))
  f219:=Tryz.func118.trans (congrArg some (by kernel_rfl))
  f220:=Tryz.func75.trans (congrArg some (by kernel_rfl))
  f224:=Tryz.func149.trans (congrArg some (by kernel_rfl))
  f225:=Tryz.func148.trans (congrArg some (by kernel_rfl))
  f266:=Tryz.func156.trans (congrArg some (by kernel_rfl))
  f267:=Tryz.func150.trans (congrArg some (by kernel_rfl))
  f314:=Tryz.func157.trans (congrArg some (by kernel_rfl))
  t3:=Tryz.underlying3
  a3:=Tryz.isAgg3
  z3:=Tryz.sizeOf3
  v3:=Tryz.zeroValue3
  t4:=Tryz.underlying4
  a4:=Tryz.isAgg4
  z4:=Tryz.sizeOf4
  v4:=Tryz.zeroValue4
  t5:=Tryz.underlying5
  a5:=Tryz.isAgg5
  z5:=Tryz.sizeOf5
  v5:=Tryz.zeroValue5
  t9:=Tryz.underlying9
  a9:=Tryz.isAgg9
  z9:=Tryz.sizeOf9
  v9:=Tryz.zeroValue9
  t46:=Tryz.underlying195
  a46:=Tryz.isAgg195
  z46:=Tryz.sizeOf195
  v46:=Tryz.zeroValue195
  t51:=Tryz.underlying211
  a51:=Tryz.isAgg211
  z51:=Tryz.sizeOf211
  v51:=Tryz.zeroValue211
  t59:=Tryz.underlying104
  a59:=Tryz.isAgg104
  z59:=Tryz.sizeOf104
  v59:=Tryz.zeroValue104
  t146:=Tryz.underlying212
  a146:=Tryz.isAgg212
  z146:=Tryz.sizeOf212
  v146:=Tryz.zeroValue212
  g1:=by kernel_rfl}
open Go.RowKit Go.Lib in
/-- strings.Cut: "Cut slices s around the first instance of o, returning the text before and after o. The found result reports whether o appears in s. If o does not appear in s, cut returns s, "", false.": IT RETURNS 'Lib.cut s sep'; the world is as it was but for the count of draws. (LAID: no walk: one application.) -/
theorem Tryz.strings_Cut (s o:ByteArray)(m:Int)(w:World)(r:s.size<4294967281)(A:w.cell? ⟨2,0,none⟩=some (.int .i64 m)):
    Calls Tryz.prog 45 #[.string s,.string o] w λe w'=>e=.returned (.tuple #[.string ⟨(Lib.cut s.data.toList o.data.toList).1.toArray⟩,.string ⟨(Lib.cut s.data.toList o.data.toList).2.1.toArray⟩,.bool (Lib.cut s.data.toList o.data.toList).2.2])/\∃n,w'=w.drewN n:=Any.strings_Cut Tryz.lays145 s o m w r A
def Tryz.laysGw17_ren:Go.Shelf.Ren:=⟨fun | 17=>106 | 15=>140 | 20=>154 | n=>n,fun | 9=>9 | 23=>165 | 4=>4 | 3=>3 | 0=>0 | 21=>21 | n=>n,fun | n=>n⟩
theorem Tryz.laysGw17:Go.Proofs.LaysGw.n17 Tryz.prog Tryz.laysGw17_ren:={
  mixed:=by kernel_rfl
  f15:=Tryz.func140.trans (congrArg some (by kernel_rfl))
  f17:=Tryz.func106.trans (congrArg some (by kernel_rfl))
  f20:=Tryz.func154.trans (congrArg some (by kernel_rfl))
  t0:=Tryz.underlying0
  a0:=Tryz.isAgg0
  z0:=Tryz.sizeOf0
  v0:=Tryz.zeroValue0
  i0:=by kernel_rfl
  t3:=Tryz.underlying3
  a3:=Tryz.isAgg3
  z3:=Tryz.sizeOf3
  v3:=Tryz.zeroValue3
  i3:=by kernel_rfl
  t4:=Tryz.underlying4
  a4:=Tryz.isAgg4
  z4:=Tryz.sizeOf4
  v4:=Tryz.zeroValue4
  i4:=by kernel_rfl
  t9:=Tryz.underlying9
  a9:=Tryz.isAgg9
  z9:=Tryz.sizeOf9
  v9:=Tryz.zeroValue9
  i9:=by kernel_rfl
  t21:=Tryz.underlying21
  a21:=Tryz.isAgg21
  z21:=Tryz.sizeOf21
  v21:=Tryz.zeroValue21
  i21:=by kernel_rfl
  t23:=Tryz.underlying165
  a23:=Tryz.isAgg165
  z23:=Tryz.sizeOf165
  v23:=Tryz.zeroValue165
  i23:=by kernel_rfl}
def Tryz.lays100_ren:Go.Shelf.Ren:=⟨fun | 100=>79 | 207=>120 | n=>n,fun | 9=>9 | 4=>4 | 3=>3 | n=>n,fun | n=>n⟩
theorem Tryz.lays100:Go.Proofs.Lays.n100 Tryz.prog Tryz.lays100_ren:={
  mixed:=by kernel_rfl
  f100:=Tryz.func79.trans (congrArg some (by kernel_rfl))
  f207:=Tryz.func120.trans (congrArg some (by kernel_rfl))
  t3:=Tryz.underlying3
  a3:=Tryz.isAgg3
  z3:=Tryz.sizeOf3
  v3:=Tryz.zeroValue3
  t4:=Tryz.underlying4
  a4:=Tryz.isAgg4
  z4:=Tryz.sizeOf4
  v4:=Tryz.zeroValue4
  t9:=Tryz.underlying9
  a9:=Tryz.isAgg9
  z9:=Tryz.sizeOf9
  v9:=Tryz.zeroValue9}
open Go.RowKit Go.Lib in
/-- strings.HasSuffix: "HasSuffix reports whether the string s ends with m.": IT RETURNS 'Lib.hasSuffix s suffix'; the world is as it was. ('hs': no Go string is longer: a caller has it of every string that it was handed.) (LAID: no walk: one application.) -/
theorem Tryz.strings_HasSuffix (s p:ByteArray)(w:World)(o:s.size<=9223372036854775807):
    Calls Tryz.prog 79 #[.string s,.string p] w λe w'=>e=.returned (.bool (Lib.hasSuffix s.data.toList p.data.toList))/\w'=w:=Any.strings_HasSuffix Tryz.lays100 s p w o
def Tryz.lays146_ren:Go.Shelf.Ren:=⟨fun | 146=>151 | 221=>158 | 268=>163 | 138=>164 | 143=>139 | 195=>165 | 197=>116 | 218=>166 | 219=>118 | 260=>146 | 217=>147 | 225=>148 | 224=>149 | 267=>150 | 266=>156 | 314=>157 | n=>n,fun | 9=>9 | 31=>28 | 3=>3 | 4=>4 | 0=>0 | 105=>173 | 21=>21 | 5=>5 | 46=>195 | 119=>191 | 139=>194 | 138=>193 | 146=>212 | 51=>211 | n=>n,fun | 1=>2 | 3=>0 | 4=>1 | n=>n⟩
theorem Tryz.lays146:Go.Proofs.Lays.n146 Tryz.prog Tryz.lays146_ren:={
  mixed:=by kernel_rfl
  f138:=Tryz.func164.trans (congrArg some (by kernel_rfl))
  f143:=Tryz.func139.trans (congrArg some (by kernel_rfl))
  f146:=Tryz.func151.trans (congrArg some (by kernel_rfl))
  f195:=Tryz.func165.trans (congrArg some (by kernel_rfl))
  f197:=Tryz.func116.trans (congrArg some (by kernel_rfl))
  f217:=Tryz.func147.trans (congrArg some (by kernel_rfl))
  f218:=Tryz.func166.trans (congrArg some (by kernel_rfl))
  f219:=Tryz.func118.trans (congrArg some (by kernel_rfl))
  f221:=Tryz.func158.trans (congrArg some (by kernel_rfl))
  f224:=Tryz.func149.trans (congrArg some (by kernel_rfl))
  f225:=Tryz.func148.trans (congrArg some (by kernel_rfl))
  f260:=Tryz.func146.trans (congrArg some (by kernel_rfl))
  f266:=Tryz.func156.trans (congrArg some (by kernel_rfl))
  f267:=Tryz.func150.trans (congrArg some (by kernel_rfl))
  f268:=Tryz.func163.trans (congrArg some (by kernel_rfl))
  f314:=Tryz.func157.trans (congrArg some (by kernel_rfl))
  t0:=Tryz.underlying0
  a0:=Tryz.isAgg0
  z0:=Tryz.sizeOf0
  v0:=Tryz.zeroValue0
  t3:=Tryz.underlying3
  a3:=Tryz.isAgg3
  z3:=Tryz.sizeOf3
  v3:=Tryz.zeroValue3
  t4:=Tryz.underlying4
  a4:=Tryz.isAgg4
  z4:=Tryz.sizeOf4
  v4:=Tryz.zeroValue4
  t5:=Tryz.underlying5
  a5:=Tryz.isAgg5
  z5:=Tryz.sizeOf5
  v5:=Tryz.zeroValue5
  t9:=Tryz.underlying9
  a9:=Tryz.isAgg9
  z9:=Tryz.sizeOf9
  v9:=Tryz.zeroValue9
  t21:=Tryz.underlying21
  a21:=Tryz.isAgg21
  z21:=Tryz.sizeOf21
  v21:=Tryz.zeroValue21
  t31:=Tryz.underlying28
  a31:=Tryz.isAgg28
  z31:=Tryz.sizeOf28
  v31:=Tryz.zeroValue28
  t46:=Tryz.underlying195
  a46:=Tryz.isAgg195
  z46:=Tryz.sizeOf195
  v46:=Tryz.zeroValue195
  t51:=Tryz.underlying211
  a51:=Tryz.isAgg211
  z51:=Tryz.sizeOf211
  v51:=Tryz.zeroValue211
  t105:=Tryz.underlying173
  a105:=Tryz.isAgg173
  z105:=Tryz.sizeOf173
  v105:=Tryz.zeroValue173
  t119:=Tryz.underlying191
  a119:=Tryz.isAgg191
  z119:=Tryz.sizeOf191
  t138:=Tryz.underlying193
  a138:=Tryz.isAgg193
  z138:=Tryz.sizeOf193
  v138:=Tryz.zeroValue193
  t139:=Tryz.underlying194
  a139:=Tryz.isAgg194
  z139:=Tryz.sizeOf194
  v139:=Tryz.zeroValue194
  t146:=Tryz.underlying212
  a146:=Tryz.isAgg212
  z146:=Tryz.sizeOf212
  v146:=Tryz.zeroValue212
  g1:=by kernel_rfl
  g3:=by kernel_rfl
  g4:=by kernel_rfl}
open Go.RowKit Go.Lib in
/-- strings.Split. (LAID: no walk: one application.) -/
theorem Tryz.strings_Split (s o:ByteArray)(m:Int)(w:World)(r:s.size<4294967281)(A:w.cell? ⟨2,0,none⟩=some (.int .i64 m))(E:1<=o.size):
    Calls Tryz.prog 151 #[.string s,.string o] w λe w'=>
      e=.returned (.slice (some ⟨w.heap.size,0,none⟩) (Lib.countB s o+1) (Lib.countB s o+1))/\w'=w.alloc (.cells ((Lib.splitB o 0 (Lib.countB s o) s).map Value.string).toArray 9):=Any.strings_Split Tryz.lays146 (by kernel_rfl) s o m w r A E
def Tryz.lays229_ren:Go.Shelf.Ren:=⟨fun | 229=>123 | n=>n,fun | 9=>9 | 40=>165 | 31=>28 | 152=>202 | 3=>3 | 0=>0 | 4=>4 | 21=>21 | 154=>204 | n=>n,fun | n=>n⟩
theorem Tryz.lays229:Go.Proofs.Lays.n229 Tryz.prog Tryz.lays229_ren:={
  mixed:=by kernel_rfl
  f229:=Tryz.func123.trans (congrArg some (by kernel_rfl))
  t0:=Tryz.underlying0
  a0:=Tryz.isAgg0
  z0:=Tryz.sizeOf0
  v0:=Tryz.zeroValue0
  t3:=Tryz.underlying3
  a3:=Tryz.isAgg3
  z3:=Tryz.sizeOf3
  v3:=Tryz.zeroValue3
  t4:=Tryz.underlying4
  a4:=Tryz.isAgg4
  z4:=Tryz.sizeOf4
  v4:=Tryz.zeroValue4
  t9:=Tryz.underlying9
  a9:=Tryz.isAgg9
  z9:=Tryz.sizeOf9
  v9:=Tryz.zeroValue9
  t21:=Tryz.underlying21
  a21:=Tryz.isAgg21
  z21:=Tryz.sizeOf21
  v21:=Tryz.zeroValue21
  t31:=Tryz.underlying28
  a31:=Tryz.isAgg28
  z31:=Tryz.sizeOf28
  v31:=Tryz.zeroValue28
  t40:=Tryz.underlying165
  a40:=Tryz.isAgg165
  z40:=Tryz.sizeOf165
  v40:=Tryz.zeroValue165
  t152:=Tryz.underlying202
  a152:=Tryz.isAgg202
  z152:=Tryz.sizeOf202
  v152:=Tryz.zeroValue202
  t154:=Tryz.underlying204
  a154:=Tryz.isAgg204
  z154:=Tryz.sizeOf204
  v154:=Tryz.zeroValue204}
open Go.RowKit Go.Lib in
theorem Tryz.strings_ContainsFunc_grows (g:Nat)(lb:Array Value)(o:∀args w,(callFunc g args).run Tryz.prog w=.ok (.enter g args) w)(p:Nat->Bool)(s:ByteArray)(w:World)(m:PredGrows Tryz.prog g lb p w):
    Calls Tryz.prog 106 #[.string s,.func (.func g) #[] lb] w λe w'=>e=.returned (.bool (decide (0<=Lib.idxFunc p true s)))/\Below w.heap.size w w':=Any.strings_ContainsFunc_grows Tryz.laysGw17 g lb o p s w m
open Go.RowKit Go.Lib in
theorem Tryz.strings_FieldsFunc_grows (g:Nat)(lb:Array Value)(r:∀args w,(callFunc g args).run Tryz.prog w=.ok (.enter g args) w)(p:Nat->Bool)(s:ByteArray)(w:World)(m:s.size<=4294967296)(o:PredGrows Tryz.prog g lb p w):
    Calls Tryz.prog 123 #[.string s,.func (.func g) #[] lb] w λe w'=>∃A,e=.returned (.slice (some ⟨A,0,none⟩) (Lib.goFieldsP p s).length (Lib.goFieldsP p s).length)/\w.heap.size<=A/\
      w'.ownsRow w.heap.size 9 1 (.slice (some ⟨A,0,none⟩) (Lib.goFieldsP p s).length (Lib.goFieldsP p s).length) (Lib.goFieldsP p s).length ((Lib.goFieldsP p s).map Value.string)/\Below w.heap.size w w':=Any.strings_FieldsFunc_grows Tryz.lays229 g lb r p s w m o (by kernel_rfl) (by kernel_rfl)
def Tryz.lays109_ren:Go.Shelf.Ren:=⟨fun | 109=>41 | n=>n,fun | 31=>28 | 9=>9 | 3=>3 | 0=>0 | 4=>4 | n=>n,fun | n=>n⟩
theorem Tryz.lays109:Go.Proofs.Lays.n109 Tryz.prog Tryz.lays109_ren:={
  mixed:=by kernel_rfl
  f109:=Tryz.func41.trans (congrArg some (by kernel_rfl))
  t0:=Tryz.underlying0
  a0:=Tryz.isAgg0
  z0:=Tryz.sizeOf0
  v0:=Tryz.zeroValue0
  t3:=Tryz.underlying3
  a3:=Tryz.isAgg3
  z3:=Tryz.sizeOf3
  v3:=Tryz.zeroValue3
  t4:=Tryz.underlying4
  a4:=Tryz.isAgg4
  z4:=Tryz.sizeOf4
  v4:=Tryz.zeroValue4
  t9:=Tryz.underlying9
  a9:=Tryz.isAgg9
  z9:=Tryz.sizeOf9
  v9:=Tryz.zeroValue9
  t31:=Tryz.underlying28
  a31:=Tryz.isAgg28
  z31:=Tryz.sizeOf28
  v31:=Tryz.zeroValue28}
open Go.Lib in
/-- slices.Index at []string: "Index returns the index of the first occurrence of v in s, or -1 if not present.": IT RETURNS 'Lib.idxOfS (the elements) v'; the world is as it was. 'zs': what the cells behind the slice's address hold (its spare capacity too, if you have it); 'zs.take n': its elements. (LAID: no walk: one application.) -/
theorem Tryz.slices_Index_string (b off n c:Nat)(m:List ByteArray)(x:ByteArray)(w:World)(r:n<=m.length)(o:n<=9223372036854775807)(A:∀j,j<m.length->w.cell? ⟨b,off+j,none⟩=some (.string (m.getD j ByteArray.empty))):
    Calls Tryz.prog 41 #[.slice (some ⟨b,off,none⟩) n c,.string x] w λe w'=>e=.returned (.int .i64 (Lib.idxOfS (m.take n) x))/\w'=w:=Any.slices_Index_string Tryz.lays109 b off n c m x w r o A
open Go.Lib in
/-- The same at a slice of length 0, a nil one too: no cell is known, none is asked for. (LAID: no walk: one application.) -/
theorem Tryz.slices_Index_string_empty (a:Option Addr)(c:Nat)(x:ByteArray)(w:World):
    Calls Tryz.prog 41 #[.slice a 0 c,.string x] w λe w'=>e=.returned (.int .i64 (Lib.idxOfS [] x))/\w'=w:=Any.slices_Index_string_empty Tryz.lays109 a c x w
def Tryz.lays110_ren:Go.Shelf.Ren:=⟨fun | 110=>66 | 109=>41 | n=>n,fun | 31=>28 | 9=>9 | 4=>4 | 3=>3 | 0=>0 | n=>n,fun | n=>n⟩
theorem Tryz.lays110:Go.Proofs.Lays.n110 Tryz.prog Tryz.lays110_ren:={
  mixed:=by kernel_rfl
  f109:=Tryz.func41.trans (congrArg some (by kernel_rfl))
  f110:=Tryz.func66.trans (congrArg some (by kernel_rfl))
  t0:=Tryz.underlying0
  a0:=Tryz.isAgg0
  z0:=Tryz.sizeOf0
  v0:=Tryz.zeroValue0
  t3:=Tryz.underlying3
  a3:=Tryz.isAgg3
  z3:=Tryz.sizeOf3
  v3:=Tryz.zeroValue3
  t4:=Tryz.underlying4
  a4:=Tryz.isAgg4
  z4:=Tryz.sizeOf4
  v4:=Tryz.zeroValue4
  t9:=Tryz.underlying9
  a9:=Tryz.isAgg9
  z9:=Tryz.sizeOf9
  v9:=Tryz.zeroValue9
  t31:=Tryz.underlying28
  a31:=Tryz.isAgg28
  z31:=Tryz.sizeOf28
  v31:=Tryz.zeroValue28}
open Go.Lib in
/-- slices.Contains at []string: "Contains reports whether v is present in s.": IT RETURNS 'Lib.containsS (the elements) v', which is true just where v is among them ('Lib.containsS_iff'); the world is as it was. ITS CALLEE slices.Index IS MET BY ITS OWN CONTRACT OFF THE SHELF (lay that first): no loop is walked here. (LAID: no walk: one application.) -/
theorem Tryz.slices_Contains_string (b off n c:Nat)(m:List ByteArray)(x:ByteArray)(w:World)(r:n<=m.length)(o:n<=9223372036854775807)(A:∀j,j<m.length->w.cell? ⟨b,off+j,none⟩=some (.string (m.getD j ByteArray.empty))):
    Calls Tryz.prog 66 #[.slice (some ⟨b,off,none⟩) n c,.string x] w λe w'=>e=.returned (.bool (Lib.containsS (m.take n) x))/\w'=w:=Any.slices_Contains_string Tryz.lays110 b off n c m x w r o A
end Go.Proofs

