/- Plain definitions: templates as data; what may be; how a template is written; how a source is read. No program in sight, no condition. -/
import Derived.Lib.ValidU
import Derived.Test.YtepcpgdfbaklfaaGreatDoorMcLib
import Derived.Test.YtepcpgdfbaklfaaGreatDoorShf
import Derived.Laws.BytesArg
import Derived.Laws.Rows
import Derived.Laws.IdiomStrings
import Derived.Deep.QuietTactic
import Derived.Deep.RegionWith
import Derived.Deep.DrawnRows
import Derived.BigQuiet
import Derived.IntWalk
import Derived.Deep.AppendLies
namespace Go.Proofs.YtepcpgdfbaklfaaGreatDoor
abbrev By := List UInt8
structure Hd where
 kind : Nat
 pos : Int
 text : ByteArray
 root : Bool
 names : List ByteArray
 name : ByteArray
inductive Pt where
 | nil : Pt
 | cons (h : Hd) (kids els rest : Pt) : Pt
structure Df where
 name : ByteArray
 pos : Int
 kids : Pt
structure Tm where
 main : Pt
 defs : List Df
namespace Pt
def len : Pt → Nat
 | nil => 0
 | cons _ _ _ r => r.len + 1
def app : Pt → Pt → Pt
 | nil, y => y
 | cons h k e r, y => cons h k e (r.app y)
def one (h : Hd) (k e : Pt) : Pt := cons h k e nil
theorem app_nil (x : Pt) : x.app nil = x := by induction x with | nil => rfl | cons h k e r _ _ ih => simp [app, ih]
theorem app_assoc (x y z : Pt) : (x.app y).app z = x.app (y.app z) := by induction x with | nil => rfl | cons h k e r _ _ ih => simp [app, ih]
theorem len_app (x y : Pt) : (x.app y).len = x.len + y.len := by
 induction x with
 | nil => simp [app, len]
 | cons h k e r _ _ ih => simp [app, len, ih]; omega
def cnt : Pt → Nat
 | nil => 0
 | cons _ k e r => 1 + k.cnt + e.cnt + r.cnt
def deep : Pt → Nat
 | nil => 0
 | cons h k e r => max (if h.kind = 3 ∨ h.kind = 4 then max (1 + k.deep) (1 + e.deep) else 0) r.deep
end Pt
def alB (c : UInt8) : Bool := decide (65 ≤ c.toNat ∧ c.toNat ≤ 90) || decide (97 ≤ c.toNat ∧ c.toNat ≤ 122)
def dgB (c : UInt8) : Bool := decide (48 ≤ c.toNat ∧ c.toNat ≤ 57)
def wdB (c : UInt8) : Bool := alB c || dgB c || decide (c = 95)
def lets : By → Bool
 | [] => false
 | c :: r => decide (r.length + 1 ≤ 64) && !dgB c && wdB c && r.all wdB
def kIf : By := [105, 102]
def kElse : By := [101, 108, 115, 101]
def kEnd : By := [101, 110, 100]
def kRange : By := [114, 97, 110, 103, 101]
def kCall : By := [99, 97, 108, 108]
def kDef : By := [100, 101, 102, 105, 110, 101]
def kws : List By := [kIf, kElse, kEnd, kRange, kCall, kDef]
def nameOk (s : By) : Bool := lets s && !kws.contains s
def namesOk (l : List By) : Bool := l.all lets
def bl (s : ByteArray) : By := s.data.toList
def bls (l : List ByteArray) : List By := l.map bl
def mkB (l : By) : ByteArray := ⟨l.toArray⟩
theorem bl_mkB (l : By) : bl (mkB l) = l := rfl
theorem mkB_bl (s : ByteArray) : mkB (bl s) = s := by simp [mkB, bl]
def splitP (p : UInt8 → Bool) : By → List By
 | [] => [[]]
 | x :: r => if p x then [] :: splitP p r else match splitP p r with
   | h :: t => (x :: h) :: t
   | [] => [[x]]
def blank (c : UInt8) : Bool := decide (c = 9 ∨ c = 10 ∨ c = 32)
def wordsB (s : By) : List By := (splitP blank s).filter (· ≠ [])
def wayT (root : Bool) : By → Option (Bool × List By)
 | 46 :: r => if namesOk (splitP (· == 46) r) then some (root, splitP (· == 46) r) else none
 | _ => none
def wayB : By → Option (Bool × List By)
 | [46] => some (false, [])
 | [36] => some (true, [])
 | 36 :: r => wayT true r
 | s => wayT false s
def cut2 (c : UInt8) : By → Option (By × By)
 | a :: b :: r => if a = c ∧ b = c then some ([], r) else (cut2 c (b :: r)).map fun x => (a :: x.1, x.2)
 | _ => none
structure Fr where
 kind : Nat
 pos : Nat
 root : Bool
 names : List By
 name : By
 els : Bool
 fst : Pt
 kids : Pt
def Fr.main : Fr := ⟨0, 0, false, [], [], false, .nil, .nil⟩
structure St where
 top : Fr
 rest : List Fr
 defs : List Df
 many : Nat
 calls : List (By × Nat)
def St.start : St := ⟨Fr.main, [], [], 0, []⟩
inductive Rs (α : Type) where
 | ok (a : α) : Rs α
 | err (e at_ : Nat) : Rs α
def Rs.bind {α β : Type} : Rs α → (α → Rs β) → Rs β
 | .ok a, f => f a
 | .err e i, _ => .err e i
def St.count (at_ : Nat) (s : St) : Rs St := if 1024 < s.many + 1 then .err 196 at_ else .ok { s with many := s.many + 1 }
def St.put (h : Hd) (k e : Pt) (s : St) : St := { s with top := { s.top with kids := s.top.kids.app (.one h k e) } }
def hdText (at_ : Nat) (x : By) : Hd := ⟨1, at_, mkB x, false, [], mkB []⟩
def hdHole (at_ : Nat) (root : Bool) (l : List By) : Hd := ⟨2, at_, mkB [], root, l.map mkB, mkB []⟩
def hdWay (kind at_ : Nat) (root : Bool) (l : List By) : Hd := ⟨kind, at_, mkB [], root, l.map mkB, mkB []⟩
def hdCall (at_ : Nat) (name : By) (root : Bool) (l : List By) : Hd := ⟨5, at_, mkB [], root, l.map mkB, mkB name⟩
def St.add (h : Hd) (at_ : Nat) (s : St) : Rs St := (s.count at_).bind fun s => .ok (s.put h .nil .nil)
def St.begin (f : Fr) (at_ : Nat) (s : St) : Rs St := if 64 < s.rest.length + 1 then .err 193 at_ else .ok { s with top := f, rest := s.top :: s.rest }
def hasDef (l : List Df) (name : By) : Bool := l.any fun d => bl d.name == name
def St.endA (at_ : Nat) (s : St) : Rs St := match s.rest with
 | [] => .err 192 at_
 | f :: r =>
   if s.top.kind = 6 then .ok { s with top := f, rest := r, defs := s.defs ++ [⟨mkB s.top.name, s.top.pos, s.top.kids⟩] }
   else .ok (({ s with top := f, rest := r } : St).put (hdWay s.top.kind s.top.pos s.top.root s.top.names) (if s.top.els then s.top.fst else s.top.kids) (if s.top.els then s.top.kids else .nil))
def St.elseA (at_ : Nat) (s : St) : Rs St :=
 if s.rest = [] ∨ s.top.kind = 6 ∨ s.top.els then .err 192 at_
 else .ok { s with top := { s.top with els := true, fst := s.top.kids, kids := .nil } }
def comment (x : By) : Bool := decide (4 ≤ x.length) && decide (x.take 2 = [47, 42]) && decide (x.drop (x.length - 2) = [42, 47])
def act1 (w : By) (at_ : Nat) (s : St) : Rs St :=
 if w = kEnd then s.endA at_ else if w = kElse then s.elseA at_ else match wayB w with
  | none => .err 190 at_
  | some p => s.add (hdHole at_ p.1 p.2) at_
def act2 (w x : By) (at_ : Nat) (s : St) : Rs St :=
 if w = kIf ∨ w = kRange then match wayB x with
  | none => .err 190 at_
  | some p => (s.begin ⟨if w = kIf then 3 else 4, at_, p.1, p.2, [], false, .nil, .nil⟩ at_).bind fun s => s.count at_
 else if w = kDef then
  if nameOk x = false ∨ s.rest ≠ [] then .err 190 at_
  else if hasDef s.defs x then .err 194 at_
  else s.begin ⟨6, at_, false, [], x, false, .nil, .nil⟩ at_
 else .err 190 at_
def act3 (w x y : By) (at_ : Nat) (s : St) : Rs St :=
 if w = kCall then match wayB y with
  | none => .err 190 at_
  | some p => if nameOk x = false then .err 190 at_ else
    (s.count at_).bind fun s => .ok (({ s with calls := s.calls ++ [(x, at_)] } : St).put (hdCall at_ x p.1 p.2) .nil .nil)
 else .err 190 at_
def action (x : By) (at_ : Nat) (s : St) : Rs St :=
 if comment x then .ok s else match wordsB x with
  | [w] => act1 w at_ s
  | [w, x] => act2 w x at_ s
  | [w, x, y] => act3 w x y at_ s
  | _ => .err 190 at_
def readF : Nat → By → Nat → St → Rs St
 | 0, _, _, s => .ok s
 | f + 1, x, at_, s =>
   if x = [] then .ok s else match cut2 123 x with
   | none => s.add (hdText at_ x) at_
   | some (a, r) =>
     (if a = [] then .ok s else s.add (hdText at_ a) at_).bind fun s => match cut2 125 r with
      | none => .err 191 (at_ + a.length)
      | some (i, r2) => (action i (at_ + a.length) s).bind fun s => readF f r2 (at_ + a.length + i.length + 4) s
def noneAt (defs : List Df) : List (By × Nat) → Option Nat
 | [] => none
 | c :: r => if hasDef defs c.1 then noneAt defs r else some c.2
def finish (n : Nat) (s : St) : Rs Tm :=
 if s.rest ≠ [] then .err 192 n else match noneAt s.defs s.calls with
  | some at_ => .err 195 at_
  | none => .ok ⟨s.top.kids, s.defs⟩
def parseB (bad : By → Option Nat) (x : By) : Rs Tm :=
 if 16384 < x.length then .err 196 0 else match bad x with
  | some i => .err 197 i
  | none => (readF x.length x 0 St.start).bind (finish x.length)
def mayB (x : By) (last : Bool) : Bool := !x.isEmpty && Lib.validD x && (cut2 123 x).isNone && (last || decide (x.getLast? ≠ some 123))
def Pt.isNil : Pt → Bool
 | .nil => true
 | _ => false
def hdOk (h : Hd) (kids els : Pt) (last : Bool) : Bool :=
 if h.kind = 1 then mayB (bl h.text) last && !h.root && h.names.isEmpty && (bl h.name).isEmpty && kids.isNil && els.isNil
 else if h.kind = 2 then namesOk (bls h.names) && (bl h.text).isEmpty && (bl h.name).isEmpty && kids.isNil && els.isNil
 else if h.kind = 3 ∨ h.kind = 4 then namesOk (bls h.names) && (bl h.text).isEmpty && (bl h.name).isEmpty
 else if h.kind = 5 then namesOk (bls h.names) && (bl h.text).isEmpty && nameOk (bl h.name) && kids.isNil && els.isNil
 else false
def Pt.form : Bool → Pt → Bool
 | _, .nil => true
 | free, .cons h k e r => hdOk h k e (free && r.isNil) && (if h.kind = 3 ∨ h.kind = 4 then Pt.form false k && Pt.form false e else true) && Pt.form free r
def Pt.called (defs : List Df) : Pt → Bool
 | .nil => true
 | .cons h k e r => (decide (h.kind ≠ 5) || hasDef defs (bl h.name)) && k.called defs && e.called defs && r.called defs
def dots : List By → By
 | [] => []
 | n :: l => 46 :: n ++ dots l
def wayS (root : Bool) (l : List By) : By := if l = [] ∧ root = false then [46] else (if root then [36] else []) ++ dots l
def bra : By := [123, 123]
def ket : By := [125, 125]
def noteS : By := [123, 123, 47, 42, 42, 47, 125, 125]
def endS : By := [123, 123, 101, 110, 100, 125, 125]
def elseS : By := [123, 123, 101, 108, 115, 101, 125, 125]
def Pt.src : Bool → Pt → By
 | _, .nil => []
 | after, .cons h k e r =>
   (if h.kind = 1 then (if after then noteS else []) ++ bl h.text
    else if h.kind = 2 then bra ++ wayS h.root (bls h.names) ++ ket
    else if h.kind = 5 then bra ++ (kCall ++ 32 :: bl h.name ++ 32 :: wayS h.root (bls h.names)) ++ ket
    else if h.kind = 3 ∨ h.kind = 4 then
     bra ++ ((if h.kind = 4 then kRange else kIf) ++ 32 :: wayS h.root (bls h.names)) ++ ket ++ Pt.src false k ++ (if e.isNil then [] else elseS ++ Pt.src false e) ++ endS
    else []) ++ Pt.src (decide (h.kind = 1)) r
def defS (d : Df) : By := bra ++ (kDef ++ 32 :: bl d.name) ++ ket ++ d.kids.src false ++ endS
def Tm.src (t : Tm) : By := t.defs.flatMap defS ++ t.main.src false
def twice : List By → Bool
 | [] => false
 | n :: l => l.contains n || twice l
def Tm.check (t : Tm) : Nat :=
 if (t.main.form true && t.defs.all fun d => nameOk (bl d.name) && d.kids.form false) = false then 190
 else if 64 < max t.main.deep ((t.defs.map fun d => 1 + d.kids.deep).foldr max 0) then 193
 else if twice (t.defs.map fun d => bl d.name) then 194
 else if (t.main.called t.defs && t.defs.all fun d => d.kids.called t.defs) = false then 195
 else if 1024 < t.main.cnt + (t.defs.map fun d => d.kids.cnt).sum ∨ 16384 < t.src.length then 196
 else 0
set_option linter.unusedVariables false
open Go.RowKit Go.Shelf
theorem frozen_cells {w : World} {b : Nat} {cs : Array Value} {T : TypeId} (hb : w.heap[b]? = some (.cells cs T (0, 0))) : ∀ j, w.frozen? ⟨b, j, none⟩ = false := by
 intro j
 simp [World.frozen?, hb]
theorem lt_of_block {w : World} {b : Nat} {o : Obj} (h : w.heap[b]? = some o) : b < w.heap.size := (Array.getElem?_eq_some_iff.1 h).1
theorem lt_of_cell {w : World} {a : Addr} {v : Value} (h : w.cell? a = some v) : a.block < w.heap.size := by
 rcases Nat.lt_or_ge a.block w.heap.size with h2 | h2
 · exact h2
 · simp [World.cell?, Array.getElem?_eq_none h2] at h
def Sh (w : World) : Prop := ∃ m, w.cell? ⟨2, 0, none⟩ = some (.int .i64 m)
theorem Sh.lt {w : World} (h : Sh w) : 2 < w.heap.size := by
 obtain ⟨m, hm⟩ := h
 exact lt_of_cell hm
theorem Sh.below {w w' : World} (h : Sh w) (hb : Below w.heap.size w w') : Sh w' := by
 obtain ⟨m, hm⟩ := h
 exact ⟨m, (hb.cell (p := ⟨2, 0, none⟩) (Sh.lt ⟨m, hm⟩)).trans hm⟩
theorem sh_of_shaped {w : World} (h : w.ShapedOpen Tryz.prog) : Sh w := Lb.Mn143.s1_3 w h
def Gd (w : World) : Prop := Sh w ∧ Tabs w
theorem Gd.below {w w' : World} (h : Gd w) (hb : Below w.heap.size w w') : Gd w' := ⟨h.1.below hb, h.2.below hb⟩
theorem Gd.later {w w' : World} {B : Nat} (h : Gd w) (hb : Below B w w') (hB : w.heap.size ≤ B) : Gd w' := h.below (hb.mono hB)
theorem byte_get (s : ByteArray) (k : Nat) (hk : k < s.size) : s.data.toList.getD k 0 = s[k] := by
 unfold List.getD
 rw [List.getElem?_eq_getElem (by simpa using hk)]; rfl
theorem Calls.wide {f : FuncId} {args : Array Value} {w : World} {R R' : Ending → World → Prop} (h : Calls Tryz.prog f args w R) (hr : ∀ e w', R e w' → R' e w') : Calls Tryz.prog f args w R' := h.mono hr
def UnF (w : World) (b : Nat) : Prop := ∀ j, w.frozen? ⟨b, j, none⟩ = false
theorem UnF.same {w w' : World} {b : Nat} (h : UnF w b) (hb : w'.heap[b]? = w.heap[b]?) : UnF w' b := fun j => (World.frozen?_of_block (w := w) hb).trans (h j)
def Strs (ok : Nat → Prop) (w : World) (v : Value) (l : List ByteArray) : Prop :=
 ∃ (a : Option Addr) (c : Nat), v = .slice a l.length c ∧ l.length ≤ c ∧ c ≤ maxLen ∧ (l ≠ [] → ∃ b o, a = some ⟨b, o, none⟩ ∧ ok b ∧ ∀ i s, l[i]? = some s → w.cell? ⟨b, o + i, none⟩ = some (.string s))
def Row (ok : Nat → Prop) (w : World) : Pt → Nat → Nat → Prop
 | .nil, _, _ => True
 | .cons h k e r, b, o =>
   (w.cell? ⟨b, o, none⟩ = some (.int .u8 (h.kind : Nat)) ∧ w.cell? ⟨b, o + 1, none⟩ = some (.int .i64 h.pos) ∧ w.cell? ⟨b, o + 2, none⟩ = some (.string h.text) ∧ w.cell? ⟨b, o + 3, none⟩ = some (.bool h.root) ∧
    (∃ v, w.cell? ⟨b, o + 4, none⟩ = some v ∧ Strs ok w v h.names) ∧ w.cell? ⟨b, o + 5, none⟩ = some (.string h.name)) ∧
   (∃ (a : Option Addr) (c : Nat), w.cell? ⟨b, o + 6, none⟩ = some (.slice a k.len c) ∧ k.len ≤ c ∧ c ≤ maxLen ∧ (k ≠ .nil → ∃ b' o', a = some ⟨b', o', none⟩ ∧ ok b' ∧ Row ok w k b' o')) ∧
   (∃ (a : Option Addr) (c : Nat), w.cell? ⟨b, o + 7, none⟩ = some (.slice a e.len c) ∧ e.len ≤ c ∧ c ≤ maxLen ∧ (e ≠ .nil → ∃ b' o', a = some ⟨b', o', none⟩ ∧ ok b' ∧ Row ok w e b' o')) ∧
   Row ok w r b (o + 8)
def Parts (ok : Nat → Prop) (w : World) (v : Value) (t : Pt) : Prop :=
 ∃ (a : Option Addr) (c : Nat), v = .slice a t.len c ∧ t.len ≤ c ∧ c ≤ maxLen ∧ (t ≠ .nil → ∃ b o, a = some ⟨b, o, none⟩ ∧ ok b ∧ Row ok w t b o)
def Kept (ok : Nat → Prop) (w w' : World) : Prop := ∀ b, ok b → w'.heap[b]? = w.heap[b]?
theorem Kept.cell {ok : Nat → Prop} {w w' : World} (h : Kept ok w w') {b : Nat} (hb : ok b) (o : Nat) : w'.cell? ⟨b, o, none⟩ = w.cell? ⟨b, o, none⟩ := World.cell?_of_block (w := w) (h b hb)
theorem Kept.of_below {B : Nat} {w w' : World} (h : Below B w w') : Kept (· < B) w w' := fun b hb => h.block b hb
theorem Kept.trans {ok : Nat → Prop} {a b c : World} (h : Kept ok a b) (k : Kept ok b c) : Kept ok a c := fun x hx => (k x hx).trans (h x hx)
theorem Strs.kept {ok : Nat → Prop} {w w' : World} {v : Value} {l : List ByteArray} (h : Strs ok w v l) (hk : Kept ok w w') : Strs ok w' v l := by
 obtain ⟨a, c, hv, h1, h2, h3⟩ := h
 refine ⟨a, c, hv, h1, h2, fun hl => ?_⟩
 obtain ⟨b, o, ha, hb, hc⟩ := h3 hl
 exact ⟨b, o, ha, hb, fun i s hi => (hk.cell hb _).trans (hc i s hi)⟩
theorem Row.kept {ok : Nat → Prop} {w w' : World} (hk : Kept ok w w') : ∀ (t : Pt) (b o : Nat), ok b → Row ok w t b o → Row ok w' t b o := by
 intro t
 induction t with
 | nil => intro b o _ _; exact trivial
 | cons h k e r ihk ihe ihr =>
   intro b o hb hr
   obtain ⟨⟨c0, c1, c2, c3, ⟨v, c4, hs⟩, c5⟩, ⟨ak, ck, c6, k1, k2, k3⟩, ⟨ae, ce, c7, e1, e2, e3⟩, hrest⟩ := hr
   refine ⟨⟨(hk.cell hb _).trans c0, (hk.cell hb _).trans c1, (hk.cell hb _).trans c2, (hk.cell hb _).trans c3, ⟨v, (hk.cell hb _).trans c4, hs.kept hk⟩, (hk.cell hb _).trans c5⟩,
    ⟨ak, ck, (hk.cell hb _).trans c6, k1, k2, fun hn => ?_⟩, ⟨ae, ce, (hk.cell hb _).trans c7, e1, e2, fun hn => ?_⟩, ihr b _ hb hrest⟩
   · obtain ⟨b', o', h1, h2, h3⟩ := k3 hn
     exact ⟨b', o', h1, h2, ihk b' o' h2 h3⟩
   · obtain ⟨b', o', h1, h2, h3⟩ := e3 hn
     exact ⟨b', o', h1, h2, ihe b' o' h2 h3⟩
theorem Parts.kept {ok : Nat → Prop} {w w' : World} {v : Value} {t : Pt} (h : Parts ok w v t) (hk : Kept ok w w') : Parts ok w' v t := by
 obtain ⟨a, c, hv, h1, h2, h3⟩ := h
 refine ⟨a, c, hv, h1, h2, fun hl => ?_⟩
 obtain ⟨b, o, ha, hb, hc⟩ := h3 hl
 exact ⟨b, o, ha, hb, hc.kept hk _ _ _ hb⟩
theorem Strs.mono {ok ok' : Nat → Prop} {w : World} {v : Value} {l : List ByteArray} (h : Strs ok w v l) (hk : ∀ b, ok b → ok' b) : Strs ok' w v l := by
 obtain ⟨a, c, hv, h1, h2, h3⟩ := h
 refine ⟨a, c, hv, h1, h2, fun hl => ?_⟩
 obtain ⟨b, o, ha, hb, hc⟩ := h3 hl
 exact ⟨b, o, ha, hk b hb, hc⟩
theorem Row.mono {ok ok' : Nat → Prop} {w : World} (hk : ∀ b, ok b → ok' b) : ∀ (t : Pt) (b o : Nat), Row ok w t b o → Row ok' w t b o := by
 intro t
 induction t with
 | nil => intro b o _; exact trivial
 | cons h k e r ihk ihe ihr =>
   intro b o hr
   obtain ⟨⟨c0, c1, c2, c3, ⟨v, c4, hs⟩, c5⟩, ⟨ak, ck, c6, k1, k2, k3⟩, ⟨ae, ce, c7, e1, e2, e3⟩, hrest⟩ := hr
   refine ⟨⟨c0, c1, c2, c3, ⟨v, c4, hs.mono hk⟩, c5⟩, ⟨ak, ck, c6, k1, k2, fun hn => ?_⟩, ⟨ae, ce, c7, e1, e2, fun hn => ?_⟩, ihr b _ hrest⟩
   · obtain ⟨b', o', h1, h2, h3⟩ := k3 hn
     exact ⟨b', o', h1, hk _ h2, ihk b' o' h3⟩
   · obtain ⟨b', o', h1, h2, h3⟩ := e3 hn
     exact ⟨b', o', h1, hk _ h2, ihe b' o' h3⟩
theorem Parts.mono {ok ok' : Nat → Prop} {w : World} {v : Value} {t : Pt} (h : Parts ok w v t) (hk : ∀ b, ok b → ok' b) : Parts ok' w v t := by
 obtain ⟨a, c, hv, h1, h2, h3⟩ := h
 refine ⟨a, c, hv, h1, h2, fun hl => ?_⟩
 obtain ⟨b, o, ha, hb, hc⟩ := h3 hl
 exact ⟨b, o, ha, hk b hb, hc.mono hk _ _ _⟩
theorem Strs.nil (ok : Nat → Prop) (w : World) : Strs ok w (.slice none 0 0) [] := ⟨none, 0, rfl, Nat.le_refl _, by decide, fun h => absurd rfl h⟩
theorem Parts.nil (ok : Nat → Prop) (w : World) : Parts ok w (.slice none 0 0) .nil := ⟨none, 0, rfl, Nat.le_refl _, by decide, fun h => absurd rfl h⟩
def Hd.wf (h : Hd) : Prop := h.kind < 256 ∧ -9223372036854775808 ≤ h.pos ∧ h.pos ≤ 9223372036854775807 ∧ h.text.size ≤ 140737488351232 ∧ h.name.size ≤ 140737488351232 ∧ h.names.length ≤ 140737488351232 ∧ ∀ n ∈ h.names, n.size ≤ 140737488351232
def Pt.wf : Pt → Prop
 | .nil => True
 | .cons h k e r => h.wf ∧ k.wf ∧ e.wf ∧ r.wf ∧ k.len ≤ 140737488351232 ∧ e.len ≤ 140737488351232
inductive Tk where
 | txt (x : By) : Tk
 | act (x : By) : Tk
def Tk.ren : Tk → By
 | .txt x => x
 | .act x => bra ++ x ++ ket
def runT : List Tk → Nat → St → Rs St
 | [], _, s => .ok s
 | .txt x :: l, at_, s => (s.add (hdText at_ x) at_).bind fun s => runT l (at_ + x.length) s
 | .act x :: l, at_, s => (action x at_ s).bind fun s => runT l (at_ + x.length + 4) s
theorem Rs.ok_bind {α β : Type} (a : α) (f : α → Rs β) : (Rs.ok a).bind f = f a := rfl
theorem cut2_some (c : UInt8) : ∀ (s a r : By), cut2 c s = some (a, r) → s = a ++ c :: c :: r ∧ cut2 c a = none ∧ a.getLast? ≠ some c
 | [], a, r, h => by simp [cut2] at h
 | [_], a, r, h => by simp [cut2] at h
 | x :: y :: s, a, r, h => by
   unfold cut2 at h
   split at h
   · rename_i hc
     obtain ⟨rfl, rfl⟩ := hc
     simp at h
     obtain ⟨rfl, rfl⟩ := h
     simp [cut2]
   · rename_i hc
     cases hq : cut2 c (y :: s) with
     | none => rw [hq] at h; cases h
     | some q =>
       rw [hq] at h
       simp at h
       obtain ⟨rfl, rfl⟩ := h
       obtain ⟨e, h1, h2⟩ := cut2_some c (y :: s) q.1 q.2 hq
       refine ⟨by rw [e]; simp, ?_, ?_⟩
       · cases hq1 : q.1 with
         | nil => rfl
         | cons z l =>
           rw [hq1] at e h1
           have hz : z = y := by simp at e; exact e.1.symm
           unfold cut2
           rw [hz] at h1 ⊢
           rw [if_neg hc, h1]; rfl
       · cases hq1 : q.1 with
         | nil =>
           rw [hq1] at e
           simp at e
           intro e2
           have : x = c := by simpa using e2
           exact hc ⟨this, e.1⟩
         | cons z l => rw [hq1] at h2; simpa using h2
theorem readF_nil (f at_ : Nat) (s : St) : readF f [] at_ s = .ok s := by cases f <;> simp [readF]
theorem readF_fuel (f g : Nat) : ∀ (x : By) (at_ : Nat) (s : St), x.length ≤ f → x.length ≤ g → readF f x at_ s = readF g x at_ s := by
 induction f generalizing g with
 | zero =>
   intro x at_ s hf hg
   obtain rfl : x = [] := List.length_eq_zero_iff.1 (by omega)
   rw [readF_nil, readF_nil]
 | succ f ih =>
   intro x at_ s hf hg
   by_cases hx : x = []
   · subst hx; rw [readF_nil, readF_nil]
   cases g with
   | zero => exact absurd (List.length_eq_zero_iff.1 (by omega)) hx
   | succ g =>
     unfold readF
     rw [if_neg hx, if_neg hx]
     cases hc : cut2 123 x with
     | none => rfl
     | some q =>
       obtain ⟨a, r⟩ := q
       obtain ⟨e, -, -⟩ := cut2_some _ _ _ _ hc
       dsimp only
       congr 1; funext s'
       cases hd : cut2 125 r with
       | none => rfl
       | some q2 =>
         obtain ⟨i, r2⟩ := q2
         obtain ⟨e2, -, -⟩ := cut2_some _ _ _ _ hd
         dsimp only
         congr 1; funext s''
         apply ih
         · have := congrArg List.length e; have := congrArg List.length e2; simp at *; omega
         · have := congrArg List.length e; have := congrArg List.length e2; simp at *; omega
def Hd.era (h : Hd) : Hd := { h with pos := 0 }
def Pt.era : Pt → Pt
 | .nil => .nil
 | .cons h k e r => .cons h.era k.era e.era r.era
theorem splitP_self (p : UInt8 → Bool) (a : By) (h : ∀ x ∈ a, p x = false) : splitP p a = [a] := by
 induction a with
 | nil => rfl
 | cons x a ih =>
   unfold splitP
   rw [if_neg (by simp [h x (by simp)]), ih (fun y hy => h y (List.mem_cons_of_mem _ hy))]
theorem splitP_cons (p : UInt8 → Bool) (a b : By) (x : UInt8) (h : ∀ y ∈ a, p y = false) (hx : p x = true) : splitP p (a ++ x :: b) = a :: splitP p b := by
 induction a with
 | nil => simp [splitP, hx]
 | cons y a ih =>
   rw [List.cons_append, splitP, if_neg (by simp [h y (by simp)]), ih (fun z hz => h z (List.mem_cons_of_mem _ hz))]
def noBl (a : By) : Prop := ∀ x ∈ a, blank x = false
theorem words1 (a : By) (h : noBl a) (hn : a ≠ []) : wordsB a = [a] := by
 unfold wordsB; rw [splitP_self _ _ h]; simp [hn]
def St.grow (s : St) (l : Pt) (n : Nat) (cs : List (By × Nat)) : St := { s with top := { s.top with kids := s.top.kids.app l }, many := s.many + n, calls := s.calls ++ cs }
theorem isNil_iff (e : Pt) : e.isNil = true ↔ e = .nil := by cases e <;> simp [Pt.isNil]
def Ok (col : Nat → Nat) (w : World) (b : Nat) : Prop := col b = 0 ∧ b < w.heap.size ∧ UnF w b
def Same (C : Nat → Prop) (col col' : Nat → Nat) (w w' : World) : Prop := w.heap.size ≤ w'.heap.size ∧ ∀ b, b < w.heap.size → C (col b) → col' b = col b ∧ w'.heap[b]? = w.heap[b]?
theorem Same.mono {C C' : Nat → Prop} {col col' : Nat → Nat} {w w' : World} (h : Same C col col' w w') (hc : ∀ c, C' c → C c) : Same C' col col' w w' := ⟨h.1, fun b hb k => h.2 b hb (hc _ k)⟩
theorem Same.keptOk {C : Nat → Prop} {col col' : Nat → Nat} {w w' : World} (h : Same C col col' w w') (h0 : C 0) : Kept (Ok col w) w w' := fun b hb => (h.2 b hb.2.1 (by rw [hb.1]; exact h0)).2
theorem Same.okOk {C : Nat → Prop} {col col' : Nat → Nat} {w w' : World} (h : Same C col col' w w') (h0 : C 0) : ∀ b, Ok col w b → Ok col' w' b := fun b hb =>
 ⟨(h.2 b hb.2.1 (by rw [hb.1]; exact h0)).1.trans hb.1, Nat.lt_of_lt_of_le hb.2.1 h.1, hb.2.2.same (h.2 b hb.2.1 (by rw [hb.1]; exact h0)).2⟩
theorem Same.strs {C : Nat → Prop} {col col' : Nat → Nat} {w w' : World} (h : Same C col col' w w') (h0 : C 0) {v : Value} {l : List ByteArray} (hs : Strs (Ok col w) w v l) : Strs (Ok col' w') w' v l :=
 (hs.kept (h.keptOk h0)).mono (h.okOk h0)
theorem Same.parts {C : Nat → Prop} {col col' : Nat → Nat} {w w' : World} (h : Same C col col' w w') (h0 : C 0) {v : Value} {t : Pt} (hs : Parts (Ok col w) w v t) : Parts (Ok col' w') w' v t :=
 (hs.kept (h.keptOk h0)).mono (h.okOk h0)
def OwnC (B : Nat) (col : Nat → Nat) (w : World) (c : Nat) (T : TypeId) (sz : Nat) (v : Value) (n : Nat) (cs : List Value) : Prop := w.ownsRow B T sz v n cs ∧ ∀ g, v.ownBlock = some g → col g = c
theorem OwnC.same {C : Nat → Prop} {B : Nat} {col col' : Nat → Nat} {w w' : World} {c : Nat} {T : TypeId} {sz : Nat} {v : Value} {n : Nat} {cs : List Value} (hs : Same C col col' w w') (hc : C c) (h : OwnC B col w c T sz v n cs) : OwnC B col' w' c T sz v n cs := by
 obtain ⟨⟨h1, h2⟩, h3⟩ := h
 rcases h2 with h2 | ⟨g, cap, cur, hv, hB, hg, hr⟩
 · exact ⟨⟨h1, .inl h2⟩, fun g hg => by rw [h2.1] at hg; cases hg⟩
 · have hcg : col g = c := h3 g (by rw [hv]; rfl)
   have hk := hs.2 g (lt_of_block hg) (by rw [hcg]; exact hc)
   refine ⟨⟨h1, .inr ⟨g, cap, cur, hv, hB, hk.2.trans hg, hr⟩⟩, fun g' hg' => ?_⟩
   have : g = g' := by rw [hv] at hg'; simpa [Value.ownBlock] using hg'
   subst this
   exact hk.1.trans hcg
def RowC (ok : Nat → Prop) (w : World) : Pt → List Value → Prop
 | .nil, cs => cs = []
 | .cons h k e r, cs => ∃ vn vk ve cs', cs = [.int .u8 (h.kind : Nat), .int .i64 h.pos, .string h.text, .bool h.root, vn, .string h.name, vk, ve] ++ cs' ∧ Strs ok w vn h.names ∧ Parts ok w vk k ∧ Parts ok w ve e ∧ RowC ok w r cs'
theorem RowC.same {C : Nat → Prop} {col col' : Nat → Nat} {w w' : World} (hs : Same C col col' w w') (h0 : C 0) : ∀ (t : Pt) (cs : List Value), RowC (Ok col w) w t cs → RowC (Ok col' w') w' t cs := by
 intro t
 induction t with
 | nil => intro cs h; exact h
 | cons h k e r _ _ ih =>
   rintro cs ⟨vn, vk, ve, cs', rfl, h1, h2, h3, h4⟩
   exact ⟨vn, vk, ve, cs', rfl, hs.strs h0 h1, hs.parts h0 h2, hs.parts h0 h3, ih _ h4⟩
theorem RowC.app {ok : Nat → Prop} {w : World} : ∀ (x y : Pt) (cs ds : List Value), RowC ok w x cs → RowC ok w y ds → RowC ok w (x.app y) (cs ++ ds) := by
 intro x
 induction x with
 | nil => intro y cs ds h1 h2; obtain rfl : cs = [] := h1; exact h2
 | cons h k e r _ _ ih =>
   rintro y cs ds ⟨vn, vk, ve, cs', rfl, h1, h2, h3, h4⟩ h5
   exact ⟨vn, vk, ve, cs' ++ ds, by simp, h1, h2, h3, ih _ _ _ h4 h5⟩
theorem RowC.len {ok : Nat → Prop} {w : World} : ∀ (x : Pt) (cs : List Value), RowC ok w x cs → cs.length = x.len * 8 := by
 intro x
 induction x with
 | nil => intro cs h; obtain rfl : cs = [] := h; rfl
 | cons h k e r _ _ ih =>
   rintro cs ⟨vn, vk, ve, cs', rfl, h1, h2, h3, h4⟩
   have := ih _ h4
   simp only [List.length_append, List.length_cons, List.length_nil, Pt.len]; omega
def Kids (B : Nat) (col : Nat → Nat) (w : World) (c : Nat) (kv : Value) (t : Pt) : Prop := ∃ cs, OwnC B col w c 56 8 kv t.len cs ∧ RowC (Ok col w) w t cs
theorem Kids.same {C : Nat → Prop} {B : Nat} {col col' : Nat → Nat} {w w' : World} {c : Nat} {kv : Value} {t : Pt} (hs : Same C col col' w w') (h0 : C 0) (hc : C c) (h : Kids B col w c kv t) : Kids B col' w' c kv t := by
 obtain ⟨cs, h1, h2⟩ := h
 exact ⟨cs, h1.same hs hc, RowC.same hs h0 _ _ h2⟩
theorem Kids.nil (B : Nat) (col : Nat → Nat) (w : World) (c : Nat) : Kids B col w c (.slice none 0 0) .nil := ⟨[], ⟨World.ownsRow_nil _ _ _ _, fun g h => by cases h⟩, rfl⟩
theorem RowC.row {ok : Nat → Prop} {w : World} : ∀ (t : Pt) (cs : List Value) (b o : Nat), RowC ok w t cs → (∀ j u, cs[j]? = some u → w.cell? ⟨b, o + j, none⟩ = some u) → Row ok w t b o := by
 intro t
 induction t with
 | nil => intro cs b o _ _; exact trivial
 | cons h k e r _ _ ih =>
   rintro cs b o ⟨vn, vk, ve, cs', rfl, h1, h2, h3, h4⟩ hc
   obtain ⟨ak, ck, rfl, k1, k2, k3⟩ := h2
   obtain ⟨ae, ce, rfl, e1, e2, e3⟩ := h3
   refine ⟨⟨hc 0 _ rfl, hc 1 _ rfl, hc 2 _ rfl, hc 3 _ rfl, ⟨vn, hc 4 _ rfl, h1⟩, hc 5 _ rfl⟩, ⟨ak, ck, hc 6 _ rfl, k1, k2, k3⟩, ⟨ae, ce, hc 7 _ rfl, e1, e2, e3⟩, ih cs' b (o + 8) h4 (fun j u hj => ?_)⟩
   have := hc (8 + j) u (by rw [List.getElem?_append_right (by simp)]; simpa using hj)
   rwa [show o + (8 + j) = o + 8 + j by omega] at this
theorem Kids.parts {B : Nat} {col : Nat → Nat} {w : World} {kv : Value} {t : Pt} (h : Kids B col w 0 kv t) : Parts (Ok col w) w kv t := by
 obtain ⟨cs, ⟨⟨h1, h2⟩, h3⟩, h4⟩ := h
 rcases h2 with ⟨rfl, hn⟩ | ⟨g, cap, cur, rfl, hB, hg, hle, hcap, hsz, ht⟩
 · cases t with
   | nil => exact Parts.nil _ _
   | cons h k e r => simp [Pt.len] at hn
 · refine ⟨_, _, rfl, hle, hcap, fun _ => ⟨g, 0, rfl, ⟨h3 g rfl, lt_of_block hg, frozen_cells hg⟩, RowC.row t cs g 0 h4 (fun j u hj => ?_)⟩⟩
   rw [Nat.zero_add, cell_of_heap' hg, ← Array.getElem?_toList]
   rw [← ht, List.getElem?_take] at hj
   split at hj
   · exact hj
   · cases hj
def frCells (f : Fr) (vn vk kv : Value) : Array Value := #[.int .u8 ((if f.kind = 6 then 0 else f.kind : Nat) : Nat), .int .i64 ((if f.kind = 6 then 0 else f.pos : Nat) : Nat), .string ⟨#[]⟩, .bool f.root, vn, .string ⟨#[]⟩, vk, .slice none 0 0,
 .string (mkB f.name), .int .i64 ((if f.kind = 6 then f.pos else 0 : Nat) : Nat), .slice none 0 0, .bool (f.kind == 6), .bool f.els, kv]
def FrM (B : Nat) (col : Nat → Nat) (w : World) (q i fb : Nat) (f : Fr) : Prop :=
 B ≤ fb ∧ col fb = 5 + 2 * i ∧ f.kids.len ≤ q ∧ ∃ vn vk kv, w.heap[fb]? = some (.cells (frCells f vn vk kv) 100 (0, 0)) ∧ Strs (Ok col w) w vn (f.names.map mkB) ∧ Parts (Ok col w) w vk f.fst ∧ Kids B col w (6 + 2 * i) kv f.kids
theorem FrM.same {C : Nat → Prop} {B : Nat} {col col' : Nat → Nat} {w w' : World} {q q' i fb : Nat} {f : Fr} (hs : Same C col col' w w') (h0 : C 0) (h1 : C (5 + 2 * i)) (h2 : C (6 + 2 * i)) (hq : q ≤ q') (h : FrM B col w q i fb f) : FrM B col' w' q' i fb f := by
 obtain ⟨a, b, c, vn, vk, kv, d, e, g, k⟩ := h
 have hb := hs.2 fb (lt_of_block d) (by rw [b]; exact h1)
 exact ⟨a, hb.1.trans b, Nat.le_trans c hq, vn, vk, kv, hb.2.trans d, hs.strs h0 e, hs.parts h0 g, k.same hs h0 h2⟩
def StackM (B : Nat) (col : Nat → Nat) (w : World) (q : Nat) : List Fr → List Nat → Prop
 | [], bs => bs = []
 | f :: r, bs => ∃ fb bs', bs = fb :: bs' ∧ FrM B col w q r.length fb f ∧ StackM B col w q r bs'
theorem StackM.same {C : Nat → Prop} {B : Nat} {col col' : Nat → Nat} {w w' : World} {q q' : Nat} (hs : Same C col col' w w') (h0 : C 0) (hq : q ≤ q') : ∀ (l : List Fr) (bs : List Nat), (∀ i, i < l.length → C (5 + 2 * i) ∧ C (6 + 2 * i)) → StackM B col w q l bs → StackM B col' w' q' l bs := by
 intro l
 induction l with
 | nil => intro bs _ h; exact h
 | cons f r ih =>
   rintro bs hc ⟨fb, bs', rfl, h1, h2⟩
   exact ⟨fb, bs', rfl, h1.same hs h0 (hc r.length (by simp)).1 (hc r.length (by simp)).2 hq, ih bs' (fun i hi => hc i (by simp; omega)) h2⟩
theorem StackM.len {B : Nat} {col : Nat → Nat} {w : World} {q : Nat} : ∀ (l : List Fr) (bs : List Nat), StackM B col w q l bs → bs.length = l.length := by
 intro l
 induction l with
 | nil => intro bs h; obtain rfl : bs = [] := h; rfl
 | cons f r ih =>
   rintro bs ⟨fb, bs', rfl, -, h2⟩
   simp [ih bs' h2]
def DRowC (ok : Nat → Prop) (w : World) : List Df → List Value → Prop
 | [], cs => cs = []
 | d :: r, cs => ∃ v cs', cs = [.string d.name, .int .i64 d.pos, v] ++ cs' ∧ Parts ok w v d.kids ∧ DRowC ok w r cs'
theorem DRowC.same {C : Nat → Prop} {col col' : Nat → Nat} {w w' : World} (hs : Same C col col' w w') (h0 : C 0) : ∀ (t : List Df) (cs : List Value), DRowC (Ok col w) w t cs → DRowC (Ok col' w') w' t cs := by
 intro t
 induction t with
 | nil => intro cs h; exact h
 | cons d r ih =>
   rintro cs ⟨v, cs', rfl, h1, h4⟩
   exact ⟨v, cs', rfl, hs.parts h0 h1, ih _ h4⟩
theorem DRowC.app {ok : Nat → Prop} {w : World} : ∀ (x y : List Df) (cs ds : List Value), DRowC ok w x cs → DRowC ok w y ds → DRowC ok w (x ++ y) (cs ++ ds) := by
 intro x
 induction x with
 | nil => intro y cs ds h1 h2; obtain rfl : cs = [] := h1; exact h2
 | cons d r ih =>
   rintro y cs ds ⟨v, cs', rfl, h1, h4⟩ h5
   exact ⟨v, cs' ++ ds, by simp, h1, ih _ _ _ h4 h5⟩
def DefsM (B : Nat) (col : Nat → Nat) (w : World) (dv : Value) (l : List Df) : Prop := ∃ cs, OwnC B col w 3 70 3 dv l.length cs ∧ DRowC (Ok col w) w l cs
theorem DefsM.same {C : Nat → Prop} {B : Nat} {col col' : Nat → Nat} {w w' : World} {dv : Value} {l : List Df} (hs : Same C col col' w w') (h0 : C 0) (h3 : C 3) (h : DefsM B col w dv l) : DefsM B col' w' dv l := by
 obtain ⟨cs, h1, h2⟩ := h
 exact ⟨cs, h1.same hs h3, DRowC.same hs h0 _ _ h2⟩
def CRowC : List (By × Nat) → List Value → Prop
 | [], cs => cs = []
 | c :: r, cs => ∃ root va vl vc cs', cs = [.int .u8 5, .int .i64 (c.2 : Nat), .string ⟨#[]⟩, .bool root, .slice va vl vc, .string (mkB c.1), .slice none 0 0, .slice none 0 0] ++ cs' ∧ CRowC r cs'
theorem CRowC.app : ∀ (x y : List (By × Nat)) (cs ds : List Value), CRowC x cs → CRowC y ds → CRowC (x ++ y) (cs ++ ds) := by
 intro x
 induction x with
 | nil => intro y cs ds h1 h2; obtain rfl : cs = [] := h1; exact h2
 | cons d r ih =>
   rintro y cs ds ⟨a, v, vl, vc, cs', rfl, h4⟩ h5
   exact ⟨a, v, vl, vc, cs' ++ ds, by simp, ih _ _ _ h4 h5⟩
theorem CRowC.at : ∀ (l : List (By × Nat)) (cs : List Value) (j : Nat) (c : By × Nat), l[j]? = some c → CRowC l cs →
 ∃ root va vl vc, cs[j * 8]? = some (.int .u8 5) ∧ cs[j * 8 + 1]? = some (.int .i64 (c.2 : Nat)) ∧ cs[j * 8 + 2]? = some (.string ⟨#[]⟩) ∧ cs[j * 8 + 3]? = some (.bool root) ∧ cs[j * 8 + 4]? = some (.slice va vl vc) ∧ cs[j * 8 + 5]? = some (.string (mkB c.1)) ∧ cs[j * 8 + 6]? = some (.slice none 0 0) ∧ cs[j * 8 + 7]? = some (.slice none 0 0) := by
 intro l
 induction l with
 | nil => intro cs j c h; simp at h
 | cons d r ih =>
   rintro cs j c h ⟨root, va, vl, vc, cs', rfl, h4⟩
   cases j with
   | zero =>
     simp at h; subst h
     exact ⟨root, va, vl, vc, rfl, rfl, rfl, rfl, rfl, rfl, rfl, rfl⟩
   | succ j =>
     obtain ⟨a, b, e, f, k⟩ := ih cs' j c (by simpa using h) h4
     refine ⟨a, b, e, f, ?_⟩
     have sh : ∀ m u, cs'[m]? = some u → ([.int .u8 5, .int .i64 (d.2 : Nat), .string ⟨#[]⟩, .bool root, .slice va vl vc, .string (mkB d.1), .slice none 0 0, .slice none 0 0] ++ cs')[8 + m]? = some u := by
      intro m u hm
      rw [List.getElem?_append_right (by simp)]
      simpa using hm
     have e0 : (j + 1) * 8 = 8 + j * 8 := by omega
     rw [e0]
     obtain ⟨k0, k1, k2, k3, k4, k5, k6, k7⟩ := k
     exact ⟨sh _ _ k0, sh _ _ k1, sh _ _ k2, sh _ _ k3, sh _ _ k4, sh _ _ k5, sh _ _ k6, sh _ _ k7⟩
def CallsM (B : Nat) (col : Nat → Nat) (w : World) (cv : Value) (l : List (By × Nat)) : Prop := ∃ cs, OwnC B col w 4 56 8 cv l.length cs ∧ CRowC l cs
theorem CallsM.same {C : Nat → Prop} {B : Nat} {col col' : Nat → Nat} {w w' : World} {cv : Value} {l : List (By × Nat)} (hs : Same C col col' w w') (h3 : C 4) (h : CallsM B col w cv l) : CallsM B col' w' cv l := by
 obtain ⟨cs, h1, h2⟩ := h
 exact ⟨cs, h1.same hs h3, h2⟩
def ptrs (bs : List Nat) : List Value := bs.reverse.map fun b => .pointer (some ⟨b, 0, none⟩)
def rdCells (sv dv : Value) (many : Nat) (cv : Value) : Array Value := #[sv, .slice none 0 0, dv, .int .i64 (many : Nat), cv]
structure RdG (B q bx : Nat) (s : St) (col : Nat → Nat) (bs : List Nat) (sv dv cv : Value) (w : World) : Prop where
 bb : B ≤ bx
 cx : col bx = 1
 hx : w.heap[bx]? = some (.cells (rdCells sv dv s.many cv) 103 (0, 0))
 st : OwnC B col w 2 98 1 sv (s.rest.length + 1) (ptrs bs)
 fr : StackM B col w q (s.top :: s.rest) bs
 df : DefsM B col w dv s.defs
 cl : CallsM B col w cv s.calls
 l1 : s.many ≤ 1024
 l2 : s.rest.length ≤ 64
 l3 : s.defs.length ≤ q
 l4 : s.calls.length ≤ q
 hB : B ≤ w.heap.size
 ol : ∀ b, b < B → col b = 1
theorem own_ge {w : World} {B n m sz g c : Nat} {e : TypeId} {xs : List Value} (h : w.ownsRow B e sz (.slice (some ⟨g, 0, none⟩) n c) m xs) : B ≤ g := by
 rcases h.2 with ⟨h0, -⟩ | ⟨g', cap, cur, h1, h2, -⟩
 · cases h0
 · injection h1 with h1
   injection h1 with h1
   injection h1 with h1
   rw [h1]; exact h2
def RdM (B q bx : Nat) (s : St) (w : World) : Prop := ∃ col bs sv dv cv, RdG B q bx s col bs sv dv cv w
def RsPost (B q bx : Nat) (w : World) (r : Rs St) (e : Ending) (w' : World) : Prop := Below B w w' ∧ match r with
 | .ok s => e = .returned (.tuple #[]) ∧ RdM B q bx s w'
 | .err n p => e = .panicked [{ v := .iface 84 (.agg #[.int .i64 (n : Nat), .int .i64 (p : Nat)]), recovered := false }]
end Go.Proofs.YtepcpgdfbaklfaaGreatDoor
