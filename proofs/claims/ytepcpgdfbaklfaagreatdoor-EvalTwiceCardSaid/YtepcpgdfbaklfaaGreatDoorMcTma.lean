/- Laws on maps that are written out: a literal's insertion, a look-up. No condition but the map's form in memory. -/
import Derived.Test.YtepcpgdfbaklfaaGreatDoorMcTp0
import Derived.WideMake
import Derived.Maps.OwnOps
import Derived.Test.YtepcpgdfbaklfaaGreatDoorMcMath
import Derived.Test.YtepcpgdfbaklfaaGreatDoorMcTrc
import Derived.Test.YtepcpgdfbaklfaaGreatDoorMcLib
import Derived.RangeFuncBox
import Derived.RangeFuncLeaves
import Derived.RangeFuncFrom
import Derived.Maps.AppendAt
import Derived.WalkSpells
import Derived.WalkLawsBesides
set_option linter.unusedVariables false
namespace Go.Proofs.YtepcpgdfbaklfaaGreatDoor
open Go.RowKit Go.Shelf Go.ChangeMaps Go.MapKept
theorem run_insert {P : Program} {w : World} (mty kt et : TypeId) (b clock : Nat) (es : Array MapEntry) (s : ByteArray) (val : Value) (hm : P.underlying mty = some (.map kt et)) (hk : P.underlying kt = some .string) (hb : w.heap[b]? = some (.map es clock))
 (hf : Instr.findNow .string (.string s) es.toList 0 = some none) :
 (Instr.mapUpdate mty (.map (some b)) (.string s) val).run P w = .ok () (setBlock w b (.map (es.push { key := .string s, val := val, born := clock }) (clock + 1))) := by
 have hc : (Instr.checkKey false 10000 kt (.string s)).run P w = .ok () w := MapKept.run_checkKey (k := .string s) hk (by simp [MapKept.IsKey]) false 9999
 have hfk : (Instr.findKey kt (.string s) es.toList).run P w = .ok none w := by simp [Instr.findKey, run_underlying hk, hf, Result.andThen]
 simp [Instr.mapUpdate, run_underlying hm, MapKept.run_getObj_map hb, hc, hfk, MapKept.run_setObj_map _ hb, Result.andThen, setBlock]
theorem run_look {P : Program} {w : World} (mty kt et : TypeId) (b clock : Nat) (es : Array MapEntry) (s : ByteArray) (i : Nat) (v : Value) (ok : Bool) (hm : P.underlying mty = some (.map kt et)) (hk : P.underlying kt = some .string) (hb : w.heap[b]? = some (.map es clock))
 (hf : Instr.findNow .string (.string s) es.toList 0 = some (some (i, v))) :
 (Instr.lookup mty (.map (some b)) (.string s) ok).run P w = .ok (if ok then .tuple #[v, .bool true] else v) w := by
 have hc : ∀ e, (Instr.checkKey e 10000 kt (.string s)).run P w = .ok () w := fun e => MapKept.run_checkKey (k := .string s) hk (by simp [MapKept.IsKey]) e 9999
 have hfk : (Instr.findKey kt (.string s) es.toList).run P w = .ok (some (i, v)) w := by simp [Instr.findKey, run_underlying hk, hf, Result.andThen]
 simp [Instr.lookup, run_underlying hm, MapKept.run_getObj_map hb, hc, hfk, Result.andThen]
theorem run_look_none {P : Program} {w : World} (mty kt et : TypeId) (b clock : Nat) (es : Array MapEntry) (s : ByteArray) (z : Value) (ok : Bool) (hm : P.underlying mty = some (.map kt et)) (hk : P.underlying kt = some .string) (hb : w.heap[b]? = some (.map es clock))
 (hf : Instr.findNow .string (.string s) es.toList 0 = some none) (hz : (zeroValue et).run P w = .ok z w) :
 (Instr.lookup mty (.map (some b)) (.string s) ok).run P w = .ok (if ok then .tuple #[z, .bool false] else z) w := by
 have hc : ∀ e, (Instr.checkKey e 10000 kt (.string s)).run P w = .ok () w := fun e => MapKept.run_checkKey (k := .string s) hk (by simp [MapKept.IsKey]) e 9999
 have hfk : (Instr.findKey kt (.string s) es.toList).run P w = .ok none w := by simp [Instr.findKey, run_underlying hk, hf, Result.andThen]
 simp [Instr.lookup, run_underlying hm, MapKept.run_getObj_map hb, hc, hfk, hz, Result.andThen]
def MapAt (B : Nat) (w0 : World) (b : Nat) (es : Array MapEntry) (clock : Nat) (w : World) : Prop := w.heap[b]? = some (.map es clock) ∧ B ≤ b ∧ Below B w0 w
theorem MapAt.made (w : World) : MapAt w.heap.size w w.heap.size #[] 0 (w.alloc (.map #[] 0)) := ⟨(MapKept.heap_alloc w _).1, Nat.le_refl _, (Below.refl _ w).alloc (Nat.le_refl _) _⟩
theorem below_setBlock {B : Nat} {w0 w : World} (h : Below B w0 w) {b : Nat} (hb : B ≤ b) (o : Obj) (es : Array MapEntry) (clock : Nat) (hm : w.heap[b]? = some (.map es clock)) : Below B w0 (setBlock w b o) :=
 ⟨h.os, h.tape, h.output, by simp [setBlock]; exact h.size, fun k hk => (heap_setBlock_other hm o (fun e => by omega)).trans (h.block k hk)⟩
theorem wpList_insert_lit {P : Program} (w : World) {ops : Array Oper} {rest : List Oper} {o : Oper} {a : Act} {Q : Exit → Act → World → Prop}
 (hg : o.guard = none) (m x v : Operand) (t : TypeId) (hop : o.op = Op.insert t m x v) (k e : TypeId) (ht : P.underlying t = some (.map k e)) (hk : P.underlying k = some .string)
 (B : Nat) (w0 : World) (b : Nat) (es : Array MapEntry) (clock : Nat) (h : MapAt B w0 b es clock w) (hm : a.eval m = .map (some b)) (s : ByteArray) (val : Value) (hx : a.eval x = .string s) (hv : a.eval v = val)
 (hf : Instr.findNow .string (.string s) es.toList 0 = some none)
 (hK : ∀ w', MapAt B w0 b (es.push { key := .string s, val := val, born := clock }) (clock + 1) w' → wpList P ops Q rest (a.put o.dst undef) w') : wpList P ops Q (o :: rest) a w := by
 refine wpList_plain hg fun K' hK' => ?_
 have hrun := run_insert t k e b clock es s val ht hk h.1 hf
 unfold Oper.wp
 simp [execOp, hop, hm, hx, hv, hrun, Result.andThen]
 exact hK' _ _ (hK _ ⟨heap_setBlock_same h.1 _, h.2.1, below_setBlock h.2.2 h.2.1 _ _ _ h.1⟩)
theorem comment_eq (l : By) : comment l = (Lib.hasPrefix l [47, 42] && Lib.hasSuffix (Lib.trimPrefix l [47, 42]) [42, 47]) := by
 unfold comment Lib.trimPrefix Lib.hasPrefix Lib.hasSuffix
 match l with
 | [] => rfl
 | [a] =>
   simp [List.isPrefixOf]
 | a :: b :: r =>
   by_cases h : a = 47 ∧ b = 42
   · obtain ⟨rfl, rfl⟩ := h
     simp only [List.isPrefixOf, beq_self_eq_true, Bool.true_and, Bool.and_self, if_true, List.length_cons, List.take_succ_cons, List.take_zero, decide_true, Bool.and_true, List.length_nil, List.drop_succ_cons, List.drop_zero]
     rw [Bool.eq_iff_iff, Bool.and_eq_true, decide_eq_true_eq, decide_eq_true_eq, List.isSuffixOf_iff_suffix]
     constructor
     · rintro ⟨h4, hd⟩
       refine ⟨r.take (r.length - 2), ?_⟩
       have hd2 : r.drop (r.length - 2) = [42, 47] := by
        rw [← hd, show r.length + 1 + 1 - 2 = (r.length - 2) + 1 + 1 by omega]; rfl
       rw [← hd2, List.take_append_drop]
     · rintro ⟨t, rfl⟩
       refine ⟨by simp, ?_⟩
       have e : (t ++ [42, 47]).length + 1 + 1 - 2 = t.length + 1 + 1 := by simp
       rw [e]
       simp
   · have e1 : List.isPrefixOf [47, 42] (a :: b :: r) = false := by
      rw [Bool.eq_false_iff]
      intro e
      simp only [List.isPrefixOf, Bool.and_true, Bool.and_eq_true, beq_iff_eq] at e
      exact h ⟨e.1.symm, e.2.symm⟩
     have e2 : decide ((a :: b :: r).take 2 = [47, 42]) = false := by
      rw [decide_eq_false_iff_not]
      intro e
      simp only [List.take_succ_cons, List.take_zero, List.cons.injEq, and_true] at e
      exact h e
     rw [e1, e2, Bool.and_false, Bool.false_and, Bool.false_and]
open Go.RowKit Go.Shelf
attribute [local go_sem] Oper.semAt_some
def ownB (W : World) (Bs : Nat) : Option Nat := match W.cell? ⟨Bs, 0, none⟩ with
 | some v => v.ownBlock
 | none => none
def KpW (Bs : Nat) (W W' : World) : Prop := ∀ A cur T, W.heap[A]? = some (.cells cur T (0, 0)) → A ≠ Bs → ownB W Bs ≠ some A → W'.heap[A]? = W.heap[A]? ∧ ownB W' Bs ≠ some A
theorem kpW_t {Bs : Nat} {A B C : World} (h : KpW Bs A B) (k : KpW Bs B C) : KpW Bs A C := by
 intro a cur T h1 h2 h3
 obtain ⟨e1, e2⟩ := h a cur T h1 h2 h3
 obtain ⟨e3, e4⟩ := k a cur T (e1.trans h1) h2 e2
 exact ⟨e3.trans e1, e4⟩
theorem wordsF_calls (r : Nat) (hr : r ≤ 1114111) (w : World) :
 Calls Tryz.prog 124 #[.int .i32 (r : Nat)] w fun e w' => e = .returned (.bool (blankR r)) ∧ w = w' := by
 by_cases h1 : r = 32
 · subst h1
   go_enter Tryz.func124, Tryz.ntmps124
   go_wp2_with fail
   go_ret
   exact ⟨rfl, rfl⟩
 by_cases h2 : r = 9
 · subst h2
   go_enter Tryz.func124, Tryz.ntmps124
   go_wp2_with fail
   go_ret
   exact ⟨rfl, rfl⟩
 by_cases h3 : r = 10
 · subst h3
   go_enter Tryz.func124, Tryz.ntmps124
   go_wp2_with fail
   go_ret
   exact ⟨rfl, rfl⟩
 have f1 : ((r : Int) == 32) = false := beq_eq_false_iff_ne.2 (by omega)
 have f2 : ((r : Int) == 9) = false := beq_eq_false_iff_ne.2 (by omega)
 have f3 : ((r : Int) == 10) = false := beq_eq_false_iff_ne.2 (by omega)
 have HE : Hid (blankR r = false) := by unfold Hid blankR; simp [h1, h2, h3]
 clear h1 h2 h3
 go_enter Tryz.func124, Tryz.ntmps124
 go_wp2_with fail
 go_ret
 rw [HE.out]
 exact ⟨rfl, rfl⟩
theorem enters_wordsF : ∀ args w, (callFunc 124 args).run Tryz.prog w = .ok (.enter 124 args) w := enters_of Tryz.func124 (by kernel_rfl) rfl
def Laid (W : World) (A : Nat) (L : List ByteArray) : Prop := ∃ cur : Array Value, W.heap[A]? = some (.cells cur 9 (0, 0)) ∧ ∀ (j : Nat) (s : ByteArray), L[j]? = some s → cur[j]? = some (Value.string s)
theorem Laid.cell {W : World} {A : Nat} {L : List ByteArray} (h : Laid W A L) {j : Nat} {s : ByteArray} (hj : L[j]? = some s) : W.cell? ⟨A, j, none⟩ = some (.string s) := by
 obtain ⟨cur, h1, h2⟩ := h
 rw [cell_of_heap' h1]; exact h2 j s hj
theorem fields_calls (s : ByteArray) (hs : s.size ≤ 16777216) (L : List ByteArray) (hL : Lib.goFieldsP blankR s = L) (w : World) :
 Calls Tryz.prog 123 #[.string s, .func (.func 124) #[] #[]] w fun e w' => ∃ A, e = .returned (.slice (some ⟨A, 0, none⟩) L.length L.length) ∧ w.heap.size ≤ A ∧ Laid w' A L ∧ Below w.heap.size w w' := by
 refine (Tryz.strings_FieldsFunc_grows 124 #[] enters_wordsF blankR s w (by omega) ?_).mono ?_
 · intro W x hx hb
   refine (wordsF_calls x hx W).mono ?_
   rintro e w' ⟨rfl, rfl⟩
   exact ⟨rfl, Below.refl _ _⟩
 · rintro e w' ⟨A, rfl, hA, hown, hb⟩
   rw [hL] at hown ⊢
   refine ⟨A, rfl, hA, ?_, hb⟩
   rcases hown.2 with ⟨h0, -⟩ | ⟨g, cap, cur, h1, h2, h3, h4, h5, h6, h7⟩
   · cases h0
   · injection h1 with h1; injection h1 with h1; injection h1 with h1
     subst h1
     refine ⟨cur, h3, fun j s hj => ?_⟩
     have h8 : (L.map Value.string)[j]? = some (.string s) := by rw [List.getElem?_map, hj]; rfl
     rw [← h7, List.getElem?_take] at h8
     rw [← Array.getElem?_toList]
     by_cases hj2 : j < L.length * 1
     · rwa [if_pos hj2] at h8
     · rw [if_neg hj2] at h8; cases h8
set_option maxRecDepth 100000 in
set_option maxHeartbeats 2000000 in
theorem words1_in (n : Nat) (hn : 1 ≤ n) (l Bw Bs : Nat) (s : ByteArray) (hs : s.size ≤ 16777216) (L : List ByteArray) (hL : Lib.goFieldsP blankR s = L) (hLl : L.length ≤ 16777216) (J Jx : List ByteArray → World → Prop) (W : World) (hJa : AbidesFrom W.heap.size J)
 (hY : ∀ pre x W1, J pre W1 → pre.length < L.length → YieldAt Fence.wide (n - 1) Tryz.prog l #[.string x] W1 fun e W' =>
  (e = .returned (.bool true) ∧ J (pre ++ [x]) W' ∧ KpW Bs W1 W') ∨ (e = .returned (.bool false) ∧ Jx (pre ++ [x]) W'))
 (hBw : W.cell? ⟨Bw, 0, none⟩ = some (.string s)) (hBs : W.cell? ⟨Bs, 0, none⟩ = some (.slice none 0 0)) (h0 : J [] W) :
 CallsIn Fence.wide n Tryz.prog 122 #[.func (.yield l) #[] #[], .pointer (some ⟨Bw, 0, none⟩)] W fun e W' => (∃ v, e = .returned v) ∧
  ((∃ ys, ys = L ∧ J ys W') ∨ (∃ pre, pre <+: L ∧ Jx pre W')) := by
 have FC := Lib.hid (fields_calls s hs L hL W)
 have HBS := Lib.hid hBs
 have HJA := Lib.hid hJa
 have HY := Lib.hid hY
 have H0 := Lib.hid h0
 have hBl : Hid (Bs < W.heap.size) := lt_of_cell hBs
 clear hJa hY h0 hBs hL
 refine callsIn_of_wp Tryz.func122 rfl trivial ?_ rfl
 simp only [Tryz.ntmps122, List.size_toArray, List.length_cons, List.length_nil, Nat.reduceAdd, Nat.reduceSub, Array.replicate_succ, Array.replicate_zero, List.push_toArray, List.append_toArray, List.nil_append, List.cons_append]
 gi_wp2_with fail
 refine ⟨trivial, ?_⟩
 refine (callsIn_wide.2 FC.out).mono ?_
 rintro e w1 ⟨A, rfl, hA, hlaid, hb⟩
 have hJ1 := Lib.hid (HJA.out _ _ _ none H0.out (grown_of_below hb) (fun r e => by cases e))
 have hc1 : w1.cell? ⟨Bs, 0, none⟩ = some (.slice none 0 0) := (hb.cell (p := ⟨Bs, 0, none⟩) hBl.out).trans HBS.out
 have hAB : Hid (A ≠ Bs) := by have := hBl.out; unfold Hid; omega
 have hob : Hid (ownB w1 Bs ≠ some A) := by unfold Hid ownB; rw [hc1]; simp [Value.ownBlock]
 have HLD := Lib.hid hlaid
 clear hlaid hb hc1 FC
 gi_wp2_with fail
 gi_loopw [8] (fun i wr => ∃ (k : Nat), i = .int .i64 k ∧ k ≤ L.length ∧ Hid (J (L.take k) wr) ∧ Hid (Laid wr A L) ∧ Hid (ownB wr Bs ≠ some A)) (fun i _ => L.length - (intOf i).toNat)
 case atStart => exact ⟨0, rfl, Nat.zero_le _, hJ1, HLD, hob⟩
 case round =>
  obtain ⟨k, rfl, hk, hJ, hld, hob⟩ := hrel
  by_cases hlt : k < L.length
  · obtain ⟨x, hx⟩ : ∃ x, L[k]? = some x := ⟨_, List.getElem?_eq_getElem hlt⟩
    have hcx := hld.out.cell hx
    have hlt' : (k : Int) < (L.length : Int) := by omega
    have htk : Hid (L.take k ++ [x] = L.take (k + 1)) := by
     unfold Hid
     rw [List.take_add_one, hx]; rfl
    obtain ⟨fn, tmps, assign, body, hy, hR⟩ := HY.out _ x _ hJ.out (by rw [List.length_take]; omega)
    clear hx
    gi_wp2
    refine hR.mono ?_
    rintro e w4 (⟨rfl, hJ4, hk4⟩ | ⟨rfl, hJx4⟩)
    · obtain ⟨cur, hcu, hcc⟩ := hld.out
      obtain ⟨e1, e2⟩ := hk4 A cur _ hcu hAB.out hob.out
      have hld4 : Hid (Laid w4 A L) := ⟨cur, e1.trans hcu, hcc⟩
      have hob4 : Hid (ownB w4 Bs ≠ some A) := e2
      have hJ5 : Hid (J (L.take (k + 1)) w4) := by unfold Hid; rw [← htk.out]; exact hJ4
      clear hJ4 hk4 hcu hcc e1 e2 hR hy hcx
      gi_wp2
      go_roundw
      case rel => exact ⟨k + 1, by go_num, hlt, hJ5, hld4, hob4⟩
      case measure => simp [intOf]; omega
    · gi_wp2
      refine bodyPost_ret (results_none rfl _ _ _) rfl ?_
      exact ⟨⟨_, rfl⟩, .inr ⟨_, by rw [htk.out]; exact List.take_prefix _ _, hJx4⟩⟩
  · obtain rfl : k = L.length := by omega
    gi_wp2
    go_end0
    exact ⟨⟨_, rfl⟩, .inl ⟨_, rfl, by have := hJ.out; rwa [List.take_length] at this⟩⟩
theorem words_stops (n : Nat) (hn : 1 ≤ n) (Bw Bs : Nat) (s : ByteArray) (hs : s.size ≤ 16777216) (L : List ByteArray) (hL : Lib.goFieldsP blankR s = L) (hLl : L.length ≤ 16777216) (w : World)
 (hBw : w.cell? ⟨Bw, 0, none⟩ = some (.string s)) (hBs : w.cell? ⟨Bs, 0, none⟩ = some (.slice none 0 0)) :
 SeqStopsK Fence.wide n Tryz.prog 122 #[.pointer (some ⟨Bw, 0, none⟩)] (fun x : ByteArray => #[Value.string x]) (KpW Bs) (fun ys => ys = L) (fun pre => pre <+: L) L.length w := fun l J Jx W hW hJa _ hY h0 =>
 words1_in n hn l Bw Bs s hs L hL hLl J Jx W hJa hY ((hW.cell (p := ⟨Bw, 0, none⟩) (lt_of_cell hBw)).trans hBw) ((hW.cell (p := ⟨Bs, 0, none⟩) (lt_of_cell hBs)).trans hBs) h0
theorem wpListIn_append_at {F : Fence} {n : Nat} {P : Program} (w : World) {ops : Array Oper} {rest : List Oper} {o : Oper} {a : Act} {Q : Exit → Act → World → Prop}
 (hg : o.guard = none) (s x : Operand) (t : TypeId) (hop : o.op = Op.call { callee := Callee.builtin Builtin.append, args := #[s, x], argTypes := #[t, t] })
 (base : Nat) (e : TypeId) (i : TypeInfo) (z : Value) (size bytes : Nat) (h1 : P.underlying t = some (.slice e)) (h2 : P.info? e = some i) (h3 : i.zero = some z) (h4 : i.size = size) (h5 : i.bytes = bytes) (h6 : z.cells.size = size) (h7 : 0 < size)
 (v : Value) (k : Nat) (xs : List Value) (hs : a.eval s = v) (hown : w.ownsRow base e size v k xs) (ad : Addr) (m c : Nat) (news : List Value) (hx : a.eval x = .slice (some ad) m c) (hn : news.length = m * size)
 (hc : ∀ j u, news[j]? = some u → w.cell? (ad.add j) = some u) (h1c : ∀ u ∈ news, u.oneCell' = true) (b1 : k + m ≤ maxLen) (b2 : (k + m) * bytes ≤ 140737488355328) (b3 : base ≤ w.heap.size)
 (hK : ∀ v' w', w'.ownsRow base e size v' (k + m) (xs ++ news) → w.grownBy w' v.ownBlock → (v'.ownBlock = v.ownBlock ∨ v'.ownBlock = some w.heap.size) → wpListIn F n P ops Q rest (a.put o.dst v') w') :
 wpListIn F n P ops Q (o :: rest) a w := by
 refine wpListIn_plain hg fun K hK' => ?_
 obtain ⟨v', w', hrun, r1, r2, -, r4⟩ := run_append_own_at (P := P) w base t o.type e i z size bytes h1 h2 h3 h4 h5 h6 h7 v k xs hown ad m c news hn hc h1c b1 b2 b3
 unfold Oper.wpIn
 refine ⟨?_, ?_⟩
 · simp [Oper.about, hop, resolve, Target.leads, Sem.run_pure]
 · rw [Oper.semAt_plain F _ _ (by rw [hop]; intro c hc'; cases hc')]
   simp [execOp, hop, resolve, invoke, builtin, hs, hx, hrun, Result.andThen]
   exact hK' _ _ (hK v' w' r1 r2 r4)
theorem infoStr : (Tryz.prog.info? 9).map (fun i => (i.zero, i.size, i.bytes)) = some (some (.string ⟨#[]⟩), 1, 16) := by kernel_rfl
theorem kpW_app {W w1 : World} {Bs n₀ k m : Nat} {v v' : Value} {T : TypeId} {xs ys : List Value} {tmp : Obj} (hv : Boxed W Bs T v) (hrow : W.ownsRow n₀ 9 1 v k xs) (hown' : w1.ownsRow n₀ 9 1 v' m ys) (hgrow : (W.alloc tmp).grownBy w1 v.ownBlock)
 (hat : v'.ownBlock = v.ownBlock ∨ v'.ownBlock = some (W.alloc tmp).heap.size) (hb : Boxed (w1.setCell ⟨Bs, 0, none⟩ v') Bs T v') : KpW Bs W (w1.setCell ⟨Bs, 0, none⟩ v') := by
 intro A cur T' h1 h2 h3
 have hA := lt_of_block h1
 have hc : W.cell? ⟨Bs, 0, none⟩ = some v := hv.cell
 have hc' : (w1.setCell ⟨Bs, 0, none⟩ v').cell? ⟨Bs, 0, none⟩ = some v' := hb.cell
 unfold ownB at h3 ⊢
 rw [hc] at h3
 rw [hc']
 refine ⟨?_, ?_⟩
 · rw [Below.heap_setCell _ _ _ _ (fun e => h2 e)]
   exact (hgrow.block A (by simp; omega) (fun e => h3 e.symm)).trans (Below.heap_alloc _ _ _ hA)
 · rcases hat with h | h
   · show v'.ownBlock ≠ some A
     rw [h]; exact h3
   · show v'.ownBlock ≠ some A
     rw [h]; simp; omega
set_option maxRecDepth 100000 in
set_option maxHeartbeats 2000000 in
theorem appendSeq_in (n : Nat) (hn : 3 ≤ n) (Bw : Nat) (s : ByteArray) (hs : s.size ≤ 16777216) (L : List ByteArray) (hL : Lib.goFieldsP blankR s = L) (hLl : L.length ≤ 16777216) (w : World) (hBw : w.cell? ⟨Bw, 0, none⟩ = some (.string s)) :
 CallsIn Fence.wide n Tryz.prog 121 #[.slice none 0 0, .func (.func 122) #[] #[.pointer (some ⟨Bw, 0, none⟩)]] w fun e W' => ∃ v, e = .returned v ∧ W'.ownsRow w.heap.size 9 1 v L.length (L.map Value.string) ∧ Below w.heap.size w W' := by
 have h1 : 1 ≤ n := by omega
 obtain ⟨i0, hi, hz0, hz1, hz2⟩ := info_parts infoStr
 have hBwl := lt_of_cell hBw
 refine callsIn_of_wp_marks Tryz.func121 rfl trivial ?_ rfl
 simp only [Tryz.ntmps121, List.size_toArray, List.length_cons, List.length_nil, Nat.reduceAdd, Nat.reduceSub, Array.replicate_succ, Array.replicate_zero, List.push_toArray, List.append_toArray, List.nil_append, List.cons_append]
 gi_wp2
 have bO := Boxed.new w 28 (.slice none 0 0)
 have hB0 : Below w.heap.size w (w.alloc (.cells #[.slice none 0 0] 28)) := (Below.refl _ w).alloc (Nat.le_refl _) _
 refine wpIn_rangeFunc_ownF rfl h1 (gf := 122) (lb := #[.pointer (some ⟨Bw, 0, none⟩)]) rfl trivial (enters_of Tryz.func122 (by kernel_rfl) rfl)
  (words_stops (n - 1) (by omega) Bw w.heap.size s hs L hL hLl (w.alloc (.cells #[.slice none 0 0] 28)) ((World.cell?_alloc_old w _ _ (Nat.ne_of_lt hBwl)).trans hBw) bO.cell) kpW_t
  ?keeps (Below.refl _ _) (fun _ => rfl)
  (fun pre W => (∃ v, Boxed W w.heap.size 28 v ∧ W.ownsRow w.heap.size 9 1 v pre.length (pre.map Value.string) ∧ True) ∧ Below w.heap.size w W)
  (fun _ _ _ => False)
  (OwnFrom.and (Own.from (holdsRow_own (β := List ByteArray) w.heap.size w.heap.size 28 9 1 (fun pre => pre.length) (fun pre => pre.map Value.string) (fun _ _ => True)) _) (ownFrom_below (Nat.le_refl _) (by simp)))
  (fun _ _ _ _ _ hs _ _ => hs)
  ⟨⟨_, bO, World.ownsRow_nil _ _ _ _, trivial⟩, hB0⟩
  (fun x => { tmps := #[.slice none 0 0, .func (.func 122) #[] #[.pointer (some ⟨Bw, 0, none⟩)], .pointer (some ⟨w.heap.size, 0, none⟩), undef, .slice none 0 0, .string x, .func (.func 122) #[] #[.pointer (some ⟨Bw, 0, none⟩)], .string x, undef, undef, undef, undef, undef], defers := [] }) ?assign ?body ?done ?stop
 case keeps =>
  intro W l o o' hl hW ho _ A cur T hA h2 h3
  have hne : A ≠ l := by rintro rfl; rw [hA] at hW; cases hW; cases ho
  have hne2 : w.heap.size ≠ l := by simp at hl; omega
  have e1 : (W.putObj l o').heap[A]? = W.heap[A]? := World.putObj_heap_other hne
  have e2 : (W.putObj l o').heap[w.heap.size]? = W.heap[w.heap.size]? := World.putObj_heap_other hne2
  refine ⟨e1, ?_⟩
  unfold ownB at h3 ⊢
  rw [World.cell?_of_block (w := W) e2]; exact h3
 case assign =>
  intro l x W K hK
  gi_wp2
  exact hK
 case body =>
  rintro l pre x W ⟨⟨v, hv, hrow, -⟩, hB⟩ hlt
  have hc := hv.cell
  gi_wp2_with (gi_at_builtin; refine wpListIn_append_at _ rfl _ _ 28 rfl w.heap.size 9 i0 (.string ⟨#[]⟩) 1 16 Tryz.underlying28 hi hz0 hz1 hz2 rfl (by decide) _ _ _ rfl (hrow.alloc _) ⟨W.heap.size, 0, none⟩ 1 1 [.string x] rfl rfl (cell_one_new _ _ _) (by simp [Value.oneCell']) (by unfold maxLen; omega) (by omega) (by have := hB.size; simp; omega) ?_; intro v' w1 hown' hgrow hat; obtain ⟨g', cap', rfl⟩ := ownsRow_succ hown'; obtain ⟨hv1, hv2, hr2, hk2, hb2⟩ := hv.appended (by decide) hrow hB.size (Nat.le_refl _) hown' hgrow; have hc1 := hv1.cell; have hf1 := hv1.frozen)
  exact ⟨hk2, kpW_app hv hrow hown' hgrow hat hv2, ⟨_, hv2, by simpa using hr2, trivial⟩, hB.trans hb2⟩
 case done =>
  rintro D ys W hD rfl ⟨⟨v, hv, hrow, -⟩, hB⟩ hK
  have hc := hv.cell
  gi_wp2
  refine ⟨by simp, .inl ⟨_, _, rfl, run_takeDeferred hK, ?_⟩⟩
  exact ⟨_, results_tmp rfl _ _ _, v, rfl, ownsRow_putObj hrow _ hK rfl, hB.trans (belowK_b (w := w) (Nat.le_refl _) W D _ _ (by simp at hD; omega) hK rfl rfl)⟩
 case stop =>
  rintro D c pre W hD _ h _
  exact h.elim
theorem words_mk (w : World) (s : ByteArray) :
 Calls Tryz.prog 81 #[.string s] w fun e w' => e = .returned (.func (.func 122) #[] #[.pointer (some ⟨w.heap.size, 0, none⟩)]) ∧ w.alloc (.cells #[.string s] 9) = w' := by
 have hmf : ∀ (fn : Fn) (first cap : Array Value) (w : World), (Instr.makeFunc fn first cap).run Tryz.prog w = .ok (.func fn first cap) w := fun _ _ _ _ => rfl
 go_enter Tryz.func81, Tryz.ntmps81
 go_wp2_with fail
 go_ret
 exact ⟨rfl, rfl⟩
def WordsR (w : World) (L : List ByteArray) (e : Ending) (w' : World) : Prop := ∃ v, e = .returned v ∧ Strs (fun b => w.heap.size ≤ b ∧ b < w'.heap.size ∧ UnF w' b) w' v L ∧ Below w.heap.size w w'
theorem strs_own {w : World} {B n : Nat} {v : Value} {L : List ByteArray} (h : w.ownsRow B 9 1 v n (L.map Value.string)) (hn : n = L.length) : Strs (fun b => B ≤ b ∧ b < w.heap.size ∧ UnF w b) w v L := by
 subst hn
 by_cases h0 : L = []
 · subst h0
   rcases h.2 with ⟨rfl, -⟩ | ⟨g, cap, cur, rfl, hB, hg, h1, h2, -⟩
   · exact Strs.nil _ _
   · exact ⟨_, _, rfl, h1, h2, fun h => absurd rfl h⟩
 · obtain ⟨g, c, rfl, hB, hlt, h1, h2, h3⟩ := ownsRow.elems h (List.length_pos_iff.2 h0)
   have hu : UnF w g := by
    rcases h.2 with ⟨h, -⟩ | ⟨g', cap, cur, h5, -, h6, -⟩
    · cases h
    · injection h5 with e1; injection e1 with e1; injection e1 with e1
      subst e1
      exact frozen_cells h6
   refine ⟨_, _, rfl, h1, h2, fun _ => ⟨g, 0, rfl, ⟨hB, hlt, hu⟩, fun i s hi => ?_⟩⟩
   rw [Nat.zero_add]
   exact h3 i _ (by rw [List.getElem?_map, hi]; rfl)
theorem collect_calls (Bw : Nat) (s : ByteArray) (hs : s.size ≤ 16777216) (L : List ByteArray) (hL : Lib.goFieldsP blankR s = L) (hLl : L.length ≤ 16777216) (w : World) (hBw : w.cell? ⟨Bw, 0, none⟩ = some (.string s)) :
 Calls Tryz.prog 80 #[.func (.func 122) #[] #[.pointer (some ⟨Bw, 0, none⟩)]] w (WordsR w L) := by
 have AS := Lib.hid ((callsIn_wide (n := 3)).1 (appendSeq_in 3 (Nat.le_refl 3) Bw s hs L hL hLl w hBw))
 clear hL
 go_enter Tryz.func80, Tryz.ntmps80
 go_wp2_with fail
 refine AS.out.mono ?_
 rintro e w1 ⟨v, rfl, hown, hb⟩
 have HO := Lib.hid hown
 have HB := Lib.hid hb
 clear hown hb AS
 go_wp2_with fail
 go_ret
 exact ⟨v, rfl, strs_own HO.out rfl, HB.out⟩
theorem wordsB_len (l : By) : (wordsB l).length ≤ l.length + 1 := Nat.le_trans (List.length_filter_le _ _) (splitP_len _ _)
theorem goFields_mk (s : ByteArray) : Lib.goFieldsP blankR s = (wordsB (bl s)).map mkB := by
 rw [← fields_words, List.map_map]
 conv => lhs; rw [← List.map_id (Lib.goFieldsP blankR s)]
 apply List.map_congr_left
 intro x _; exact (mkB_bl x).symm
theorem infoPtr : (Tryz.prog.info? 98).map (fun i => (i.zero, i.size, i.bytes)) = some (some (.pointer none), 1, 8) := by kernel_rfl
theorem ptrs_cons (b : Nat) (bs : List Nat) : ptrs (b :: bs) = ptrs bs ++ [.pointer (some ⟨b, 0, none⟩)] := by simp [ptrs]
theorem OwnC.block {B : Nat} {col : Nat → Nat} {w : World} {c : Nat} {T : TypeId} {sz : Nat} {v : Value} {n : Nat} {cs : List Value} (h : OwnC B col w c T sz v n cs) : ∀ g, v.ownBlock = some g → B ≤ g ∧ g < w.heap.size ∧ col g = c := fun g hg =>
 ⟨(World.ownsRow.lt h.1 g hg).1, (World.ownsRow.lt h.1 g hg).2, h.2 g hg⟩
theorem own_set {w : World} {B n sz : Nat} {e : TypeId} {v : Value} {xs : List Value} (h : w.ownsRow B e sz v n xs) (b j : Nat) (u : Value) (hb : v.ownBlock ≠ some b) : (w.setCell ⟨b, j, none⟩ u).ownsRow B e sz v n xs := by
 refine ⟨h.1, ?_⟩
 rcases h.2 with h | ⟨g, cap, cur, h1, h2, h3, h4⟩
 · exact .inl h
 · refine .inr ⟨g, cap, cur, h1, h2, ?_, h4⟩
   rw [Below.heap_setCell _ _ _ _ (fun e => by
    have e2 : g = b := e
    exact hb (by rw [h1, ← e2]; rfl))]
   exact h3
theorem same_grown {col : Nat → Nat} {w w2 : World} {bx c cb g2 j : Nat} {v : Value} {u : Value} (hcx : col bx = cb) (hcb : cb ≠ c) (hcol : ∀ g, v.ownBlock = some g → col g = c) (hsz : w.heap.size ≤ w2.heap.size)
 (hbl : ∀ b, b < w.heap.size → some b ≠ v.ownBlock → w2.heap[b]? = w.heap[b]?) (hat : v.ownBlock = some g2 ∨ w.heap.size ≤ g2) :
 Same (fun k => k ≠ cb ∧ k ≠ c) col (dye col g2 c) w (w2.setCell ⟨bx, j, none⟩ u) := by
 refine ⟨by simp [World.setCell]; exact hsz, fun b hb hc => ⟨?_, ?_⟩⟩
 · unfold dye
   rw [if_neg]
   rintro rfl
   rcases hat with h1 | h1
   · exact hc.2 (hcol _ h1)
   · omega
 · rw [Below.heap_setCell _ _ _ _ (fun e => by have e2 : b = bx := e; rw [e2] at hc; exact hc.1 hcx)]
   exact hbl b hb (fun e => hc.2 (hcol b e.symm))
theorem dye_new {col : Nat → Nat} (g c : Nat) : dye col g c g = c := if_pos rfl
theorem dye_old {col : Nat → Nat} {g c b : Nat} (h : b ≠ g) : dye col g c b = col b := if_neg h
theorem RdG.pushed {B q bx fb : Nat} {s : St} {col : Nat → Nat} {bs : List Nat} {sv dv cv : Value} {w w2 : World} (hg : RdG B q bx s col bs sv dv cv w) {f : Fr} {vn : Value}
 (hfb : B ≤ fb) (hcf : col fb = 5 + 2 * (s.rest.length + 1)) (hfh : w.heap[fb]? = some (.cells (frCells f vn (.slice none 0 0) (.slice none 0 0)) 100 (0, 0))) (hfn : Strs (Ok col w) w vn (f.names.map mkB)) (hf1 : f.fst = .nil) (hf2 : f.kids = .nil) (hle : s.rest.length + 1 ≤ 64)
 (hsz : w.heap.size ≤ w2.heap.size) (hbl : ∀ b, b < w.heap.size → some b ≠ sv.ownBlock → w2.heap[b]? = w.heap[b]?) {g2 cap2 : Nat}
 (hown : w2.ownsRow B 98 1 (.slice (some ⟨g2, 0, none⟩) (s.rest.length + 1 + 1) cap2) (s.rest.length + 1 + 1) (ptrs bs ++ [.pointer (some ⟨fb, 0, none⟩)])) (hat : sv.ownBlock = some g2 ∨ w.heap.size ≤ g2) :
 RdM B q bx { s with top := f, rest := s.top :: s.rest } (w2.setCell ⟨bx, 0, none⟩ (.slice (some ⟨g2, 0, none⟩) (s.rest.length + 1 + 1) cap2)) := by
 have hlt := lt_of_block hfh
 have hbxl := lt_of_block hg.hx
 have hS := same_grown (j := 0) (u := .slice (some ⟨g2, 0, none⟩) (s.rest.length + 1 + 1) cap2) hg.cx (by decide : (1 : Nat) ≠ 2) hg.st.2 hsz hbl hat
 have hx2 : w2.heap[bx]? = some (.cells (rdCells sv dv s.many cv) 103 (0, 0)) := (hbl bx hbxl (fun e => by have := hg.st.2 bx e.symm; rw [hg.cx] at this; cases this)).trans hg.hx
 have hne : g2 ≠ bx := by
  rintro rfl
  rcases hat with h1 | h1
  · have := hg.st.2 _ h1; rw [hg.cx] at this; cases this
  · omega
 have hF : FrM B (dye col g2 2) (w2.setCell ⟨bx, 0, none⟩ (.slice (some ⟨g2, 0, none⟩) (s.rest.length + 1 + 1) cap2)) q (s.rest.length + 1) fb f := by
  have hk := hS.2 fb hlt (by rw [hcf]; exact ⟨by omega, by omega⟩)
  refine ⟨hfb, hk.1.trans hcf, by rw [hf2]; exact Nat.zero_le _, vn, _, _, hk.2.trans hfh, hS.strs ⟨by decide, by decide⟩ hfn, ?_, ?_⟩
  · rw [hf1]; exact Parts.nil _ _
  · rw [hf2]; exact Kids.nil _ _ _ _
 exact ⟨dye col g2 2, fb :: bs, .slice (some ⟨g2, 0, none⟩) (s.rest.length + 1 + 1) cap2, dv, cv, {
  bb := hg.bb
  cx := (dye_old (Ne.symm hne)).trans hg.cx
  hx := set_cells (j := 0) hx2 (.slice (some ⟨g2, 0, none⟩) (s.rest.length + 1 + 1) cap2)
  st := ⟨by rw [ptrs_cons]; exact own_set hown _ _ _ (fun e => hne (by simpa [Value.ownBlock] using e)), fun g hg' => by
   have : g2 = g := by simpa [Value.ownBlock] using hg'
   rw [← this]; exact dye_new _ _⟩
  fr := ⟨fb, bs, rfl, hF, hg.fr.same hS ⟨by decide, by decide⟩ (Nat.le_refl _) _ _ (fun i _ => ⟨⟨by omega, by omega⟩, ⟨by omega, by omega⟩⟩)⟩
  df := hg.df.same hS ⟨by decide, by decide⟩ ⟨by decide, by decide⟩
  cl := hg.cl.same hS ⟨by decide, by decide⟩
  l1 := hg.l1
  l2 := hle
  l3 := hg.l3
  l4 := hg.l4
  hB := Nat.le_trans hg.hB hS.1
  ol := fun b hb => (dye_old (by have := own_ge hown; omega)).trans (hg.ol b hb) }⟩
set_option maxHeartbeats 1000000 in
set_option maxRecDepth 100000 in
theorem begin_calls (B q bx fb at_ : Nat) (hat : at_ ≤ 16777216) (s : St) (col : Nat → Nat) (bs : List Nat) (sv dv cv vn : Value) (f : Fr) (w : World) (hg : RdG B q bx s col bs sv dv cv w)
 (hfb : B ≤ fb) (hcf : col fb = 5 + 2 * (s.rest.length + 1)) (hfh : w.heap[fb]? = some (.cells (frCells f vn (.slice none 0 0) (.slice none 0 0)) 100 (0, 0))) (hfn : Strs (Ok col w) w vn (f.names.map mkB)) (hf1 : f.fst = .nil) (hf2 : f.kids = .nil) :
 Calls Tryz.prog 125 #[.pointer (some ⟨bx, 0, none⟩), .pointer (some ⟨fb, 0, none⟩), .int .i64 (at_ : Nat)] w (RsPost B q bx w (s.begin f at_)) := by
 obtain ⟨c0, c1, c2, c3, c4, fz⟩ := hg.cells
 obtain ⟨fb', bs', g, c, he, hl, rfl, hc1, hc2, hcg, -, -, -⟩ := hg.top
 have hm := hg.l2
 have HG := Lib.hid hg
 by_cases hgt : 64 < s.rest.length + 1
 · have hgt' : (64 : Int) < ((s.rest.length + 1 : Nat) : Int) := by omega
   have HE : Hid (s.begin f at_ = .err 193 at_) := by unfold Hid St.begin; rw [if_pos hgt]
   clear hg hgt hfh hfn hm
   go_enter Tryz.func125, Tryz.ntmps125
   go_wp2_with fail
   rw [HE.out]
   exact ⟨rfl, Below.refl _ _, rfl⟩
 · have hgt' : ¬ (64 : Int) < ((s.rest.length + 1 : Nat) : Int) := by omega
   have HE : Hid (s.begin f at_ = .ok { s with top := f, rest := s.top :: s.rest }) := by unfold Hid St.begin; rw [if_neg hgt]
   obtain ⟨i0, hi, hz0, hz1, hz2⟩ := info_parts infoPtr
   have hown := hg.st.1
   have hbx := lt_of_block hg.hx
   have hB1 : B ≤ w.heap.size + 1 := by have := hg.hB; omega
   have hnews : ∀ j u, ([.pointer (some ⟨fb, 0, none⟩)] : List Value)[j]? = some u → (w.alloc (.cells #[.pointer (some ⟨fb, 0, none⟩)] 98)).cell? ((⟨w.heap.size, 0, none⟩ : Addr).add j) = some u := by
    intro j u hj
    have hb := heap_alloc_new w (.cells #[.pointer (some ⟨fb, 0, none⟩)] 98)
    have hadd : (⟨w.heap.size, 0, none⟩ : Addr).add j = ⟨w.heap.size, j, none⟩ := by unfold Addr.add; split <;> simp_all
    rw [hadd, cell_of_heap' hb]
    simpa using hj
   have hnk : some bx ≠ (Value.slice (some ⟨g, 0, none⟩) (s.rest.length + 1) c).ownBlock := fun e => by
    have e2 : bx = g := by simpa [Value.ownBlock] using e
    have := hg.cx; rw [e2, hcg] at this; cases this
   have hmm : s.rest.length + 1 + 1 ≤ maxLen := by unfold maxLen; omega
   go_enter Tryz.func125, Tryz.ntmps125
   go_wp2_with (at_builtin; refine wpList_append_lies _ rfl _ _ _ rfl B 98 i0 _ 1 8 Tryz.underlying101 hi hz0 hz1 hz2 rfl (by decide) _ (s.rest.length + 1) (ptrs bs) (by rfl) (World.ownsRow.alloc hown _) ⟨w.heap.size, 0, none⟩ 1 1 [.pointer (some ⟨fb, 0, none⟩)] (by rfl) (by rfl) hnews (by simp [Value.oneCell']) (by decide) hmm (by omega) (by simp; omega) (w.heap.size + 1) (by simp) ?_; intro g2 cap2 w2 hown2 hgr hat2 hlt2; have hx2 := (hgr.block bx (by simp; omega) hnk).trans ((Below.heap_alloc _ _ _ hbx).trans HG.out.hx); have d0 : w2.cell? ⟨bx, 0, none⟩ = some (.slice (some ⟨g, 0, none⟩) (s.rest.length + 1) c) := (by rw [cell_of_heap' hx2]; rfl); have dz := frozen_cells hx2 0)
   have hsz2 : w.heap.size ≤ w2.heap.size := by have := hgr.size; simp at this; omega
   have hbl2 : ∀ b, b < w.heap.size → some b ≠ (Value.slice (some ⟨g, 0, none⟩) (s.rest.length + 1) c).ownBlock → w2.heap[b]? = w.heap[b]? := fun b hb hn => (hgr.block b (by simp; omega) hn).trans (Below.heap_alloc _ _ _ hb)
   have hF := Lib.hid (HG.out.pushed hfb hcf hfh hfn hf1 hf2 (by omega) hsz2 hbl2 hown2 (hat2.imp id (fun e => by omega)))
   have hB3 := Lib.hid ((((Below.refl B w).alloc HG.out.hB _).grown hgr (by simp; omega) (fun k hk => (World.ownsRow.lt hown k hk).1)).setCell (p := ⟨bx, 0, none⟩) HG.out.bb (.slice (some ⟨g2, 0, none⟩) (s.rest.length + 1 + 1) cap2))
   clear hgr hx2 hbl2 hown2 hfh hfn hown hnews hg
   go_end0
   rw [HE.out]
   exact ⟨hB3.out, rfl, hF.out⟩
theorem count_calls (B q bx : Nat) (s : St) (at_ : Nat) (hat : at_ ≤ 16777216) (w : World) (h : RdM B q bx s w) :
 Calls Tryz.prog 76 #[.pointer (some ⟨bx, 0, none⟩), .int .i64 (at_ : Nat)] w (RsPost B q bx w (s.count at_)) := by
 obtain ⟨col, bs, sv, dv, cv, hg⟩ := h
 obtain ⟨-, -, -, c3, -, fz⟩ := hg.cells
 refine (count_cells B bx at_ s.many hg.l1 hat w c3 (fz 3)).mono ?_
 rintro e w' ⟨rfl, rfl⟩
 have hb : Below B w (w.setCell ⟨bx, 3, none⟩ (.int .i64 ((s.many + 1 : Nat) : Int))) := (Below.refl _ w).setCell hg.bb _
 unfold St.count
 by_cases hgt : 1024 < s.many + 1
 · rw [if_pos hgt, if_pos hgt]; exact ⟨hb, rfl⟩
 · rw [if_neg hgt, if_neg hgt]; exact ⟨hb, rfl, col, bs, sv, dv, cv, hg.counted (by omega)⟩
def freshC (col : Nat → Nat) (n b : Nat) : Nat := if b < n then col b else 0
theorem same_fresh {B : Nat} {col : Nat → Nat} {w w' : World} (hb : Below w.heap.size w w') : Same (fun _ => True) col (freshC col w.heap.size) w w' :=
 ⟨hb.size, fun b h _ => ⟨if_pos h, hb.block b h⟩⟩
theorem fresh_ok {col : Nat → Nat} {w w' : World} {b : Nat} (h : New w w' b) : Ok (freshC col w.heap.size) w' b := ⟨if_neg (by have := h.1; omega), h.2⟩
theorem same_dyed {col : Nat → Nat} (w : World) (o : Obj) (c : Nat) : Same (fun _ => True) col (dye col w.heap.size c) w (w.alloc o) :=
 ⟨by simp, fun b h _ => ⟨dye_old (by omega), Below.heap_alloc _ _ _ h⟩⟩
theorem RsPost.bind {B q bx : Nat} {w w1 : World} {r : Rs St} {f : St → Rs St} {e : Ending} {w' : World} (hb : Below B w w1) (h : RsPost B q bx w1 r e w') : RsPost B q bx w r e w' := ⟨hb.trans (h.1.mono (Nat.le_refl _)), h.2⟩
def kindF (k at_ : Nat) (p : Bool × List By) : Fr := ⟨k, at_, p.1, p.2, [], false, .nil, .nil⟩
theorem bl_mk (l : By) : bl (mkB l) = l := rfl
set_option maxRecDepth 100000 in
set_option maxHeartbeats 1000000 in
theorem choice_calls (B q bx : Nat) (k : Nat) (w0 x : By) (hk : (k = 3 ∧ w0 = kIf) ∨ (k = 4 ∧ w0 = kRange)) (hx : x.length ≤ 16777216) (at_ : Nat) (hat : at_ ≤ 16777216) (s : St) (col : Nat → Nat) (bs : List Nat) (sv dv cv wv : Value) (w : World) (hg : RdG B q bx s col bs sv dv cv w)
 (hsh : Sh w) (hws : Strs (Ok col w) w wv [mkB w0, mkB x]) :
 Calls Tryz.prog 82 #[.pointer (some ⟨bx, 0, none⟩), wv, .int .i64 (at_ : Nat)] w (RsPost B q bx w (match wayB x with
  | none => .err 190 at_
  | some p => (s.begin (kindF k at_ p) at_).bind fun s => s.count at_)) := by
 obtain ⟨a, c, rfl, h1, h2, h3⟩ := hws
 obtain ⟨b, o, rfl, hok, hcs⟩ := h3 (by simp)
 have d0 : w.cell? ⟨b, o, none⟩ = some (.string (mkB w0)) := hcs 0 _ rfl
 have d1 : w.cell? ⟨b, o + 1, none⟩ = some (.string (mkB x)) := hcs 1 _ rfl
 have MU := Lib.hid (must_calls (mkB x) (by rw [mkB_size]; exact hx) at_ hat w hsh)
 rw [bl_mk] at MU
 obtain ⟨X, hX⟩ : ∃ X, mkB x = X := ⟨_, rfl⟩
 rw [hX] at d1 MU
 clear hX hcs
 have HG := Lib.hid hg
 have HBw : Hid (B ≤ w.heap.size) := hg.hB
 have h2' : (1 : Int) < (2 : Nat) := by omega
 clear hg
 have ft : ((mkB w0).toList == [114, 97, 110, 103, 101]) = (k == 4) := by rcases hk with ⟨rfl, rfl⟩ | ⟨rfl, rfl⟩ <;> (rw [ByteArray.toList_eq]; rfl)
 clear h3 h1
 cases hw : wayB x with
 | none =>
   rw [hw] at MU
   clear hw
   rcases hk with ⟨rfl, rfl⟩ | ⟨rfl, rfl⟩
   all_goals
    first
    | replace ft : ((mkB kIf).toList == [114, 97, 110, 103, 101]) = false := ft
    | replace ft : ((mkB kRange).toList == [114, 97, 110, 103, 101]) = true := ft
    go_enter Tryz.func82, Tryz.ntmps82
    go_wp2_with fail
    refine MU.out.mono ?_
    rintro e w1 ⟨hb1, rfl⟩
    have HB1 := Lib.hid (hb1.mono HBw.out)
    clear hb1
    go_wp2_with fail
    exact ⟨rfl, HB1.out, rfl⟩
 | some p =>
   rw [hw] at MU
   clear hw
   dsimp only
   obtain ⟨F, hF⟩ : ∃ F, kindF k at_ p = F := ⟨_, rfl⟩
   rw [hF]
   have HFH := Lib.hid hF
   clear hF
   rcases hk with ⟨rfl, rfl⟩ | ⟨rfl, rfl⟩
   all_goals
    first
    | replace ft : ((mkB kIf).toList == [114, 97, 110, 103, 101]) = false := ft
    | replace ft : ((mkB kRange).toList == [114, 97, 110, 103, 101]) = true := ft
    go_enter Tryz.func82, Tryz.ntmps82
    go_wp2_with fail
    refine MU.out.mono ?_
    rintro e w1 ⟨hb1, v, rfl, hst⟩
    obtain ⟨L, hL⟩ : ∃ L, p.2.map mkB = L := ⟨_, rfl⟩
    rw [hL] at hst
    have HL := Lib.hid hL
    clear hL
    have ⟨va, vc, hv, _⟩ := hst
    subst hv
    have hn1 : Strs (Ok (freshC col w.heap.size) w1) w1 (.slice va L.length vc) L := hst.mono (fun b hb => fresh_ok hb)
    have hg1 := HG.out.same (same_fresh (B := B) hb1) (fun _ => trivial) (Nat.le_refl q)
    have HB1 := Lib.hid (hb1.mono HBw.out)
    have HB1w : Hid (B ≤ w1.heap.size) := hg1.hB
    have BG := Lib.hid (fun (o : Obj) (f : Fr) (h : o = .cells (frCells f (.slice va L.length vc) (.slice none 0 0) (.slice none 0 0)) 100 (0, 0)) (hf : f.names.map mkB = L) (h1 : f.fst = .nil) (h2 : f.kids = .nil) =>
     begin_calls B q bx w1.heap.size at_ hat s _ bs sv dv cv (.slice va L.length vc) f (w1.alloc o) (hg1.same (same_dyed w1 o (5 + 2 * (s.rest.length + 1))) (fun _ => trivial) (Nat.le_refl q)) hg1.hB (dye_new _ _)
      (by rw [h]; exact heap_alloc_new w1 _) (by rw [hf]; exact (same_dyed w1 o (5 + 2 * (s.rest.length + 1))).strs trivial hn1) h1 h2)
    clear hb1 hst hn1 hg1 hok d0
    cases hR : s.begin F at_ with
    | err ee ii =>
      go_wp2_with fail
      refine (BG.out _ F (by rw [← HFH.out]; rfl) (by rw [← HFH.out]; exact HL.out) (by rw [← HFH.out]; rfl) (by rw [← HFH.out]; rfl)).mono ?_
      rw [hR]
      rintro e w3 ⟨hb3, rfl⟩
      have HB3 := Lib.hid ((HB1.out.alloc HB1w.out _).trans hb3)
      have HE : Hid ((s.begin F at_).bind (fun s => s.count at_) = .err ee ii) := by unfold Hid; rw [hR]; rfl
      clear hb3 hR
      go_wp2_with fail
      rw [HE.out]
      exact ⟨rfl, HB3.out, rfl⟩
    | ok s2 =>
      go_wp2_with fail
      refine (BG.out _ F (by rw [← HFH.out]; rfl) (by rw [← HFH.out]; exact HL.out) (by rw [← HFH.out]; rfl) (by rw [← HFH.out]; rfl)).mono ?_
      rw [hR]
      rintro e w3 ⟨hb3, rfl, hrd⟩
      have HB3 := Lib.hid ((HB1.out.alloc HB1w.out _).trans hb3)
      have CC := Lib.hid (count_calls B q bx s2 at_ hat w3 hrd)
      have HE : Hid ((s.begin F at_).bind (fun s => s.count at_) = s2.count at_) := by unfold Hid; rw [hR]; rfl
      clear hb3 hR hrd
      go_wp2_with fail
      refine CC.out.mono ?_
      rintro e w4 ⟨hb4, h4⟩
      have HB4 := Lib.hid (HB3.out.trans hb4)
      clear hb4 CC
      cases hc : s2.count at_ with
      | ok s3 =>
        rw [hc] at h4
        obtain ⟨rfl, h5⟩ := h4
        have H5 := Lib.hid h5
        have HC := Lib.hid hc
        clear h5 hc
        go_wp2_with fail
        go_end0
        rw [HE.out, HC.out]
        exact ⟨HB4.out, rfl, H5.out⟩
      | err ee ii =>
        rw [hc] at h4
        have h5 : e = .panicked [{ v := .iface 84 (.agg #[.int .i64 (ee : Nat), .int .i64 (ii : Nat)]), recovered := false }] := h4
        subst h5
        have HC := Lib.hid hc
        clear h4 hc
        go_wp2_with fail
        rw [HE.out, HC.out]
        exact ⟨rfl, HB4.out, rfl⟩
end Go.Proofs.YtepcpgdfbaklfaaGreatDoor
