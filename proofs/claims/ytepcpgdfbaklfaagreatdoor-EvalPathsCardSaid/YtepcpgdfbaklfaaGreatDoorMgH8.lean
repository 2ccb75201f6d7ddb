/-
  A value that came in: what its weight says of its sizes. No condition.
-/
/-
  The walk of lacunalaw20.EvalPaths. The condition: MaxLen holds some number; the tables of unicode/utf8 read as they were laid; sizes that memory has room for.
-/
import Derived.Test.YtepcpgdfbaklfaaGreatDoorMgF1
import Derived.Test.YtepcpgdfbaklfaaGreatDoorMgF0
import Derived.Test.YtepcpgdfbaklfaaGreatDoorG5M
import Derived.Test.YtepcpgdfbaklfaaGreatDoorH7M
import Derived.Deep.RegionHeld3
set_option linter.unusedSimpArgs false
set_option linter.unusedVariables false
namespace Go.Proofs.YtepcpgdfbaklfaaGreatDoor
open Go.RowKit Go.Shelf Ev

theorem cnt_le_wg : ∀ t : Vl, cntX t ≤ wgX t := by
  intro t
  induction t with
  | nil => exact Nat.le_refl _
  | cons h k r ihk ihr => simp only [cntX, wgX]; omega
theorem sm_wf_h {h : Vh} (hs : h.sm) : h.wf := by
  obtain ⟨s1, s2, s3, s4, s5, s6, s7⟩ := hs
  exact ⟨s1, s2, s3, s4, by omega, by omega, fun n hn => Nat.le_trans (s7 n hn) (by decide)⟩
theorem sm_wfX : ∀ t : Vl, smX t → cntX t ≤ 16777216 → wfX t := by
  intro t
  induction t with
  | nil => intro _ _; exact trivial
  | cons h k r ihk ihr =>
    rintro ⟨h1, h2, h3⟩ hc
    simp only [cntX] at hc
    have hl := len_le_cntX k
    exact ⟨sm_wf_h h1, ihk h2 (by omega), ihr h3 (by omega), by omega⟩
theorem Va.sm_wf {x : Va} (h : Va.sm x) : Va.wf x := ⟨sm_wf_h h.1, sm_wfX _ h.2.1 h.2.2, by have := len_le_cntX x.items; have := h.2.2; omega⟩
/-- A value of a small weight is small. -/
theorem Va.wf_sm {x : Va} (h : Va.wf x) (hw : wvF 2048 x ≤ 2048) : Va.sm x := by
  have h1 := wvF_eq x 2048 hw
  have h2 : wgX (.cons x.h x.items .nil) ≤ 2048 := by rw [← h1]; exact hw
  have h3 := sm_of_weight 2048 (by decide) (.cons x.h x.items .nil) ⟨h.1, h.2.1, trivial, h.2.2⟩ h2
  have h4 := cnt_le_wg (.cons x.h x.items .nil)
  simp only [cntX] at h4
  exact ⟨h3.1, h3.2.1, by omega⟩
/-- The value and the error that a path comes to. -/
def gv (r : Except Nat Va) : Va := match r with | .ok x => x | .error _ => zeroVa
def ge (r : Except Nat Va) : Nat := match r with | .ok _ => 0 | .error n => n
theorem getE_calls (dot root : Va) (rt : Bool) (names : List ByteArray) (hsd : Va.sm dot) (hsr : Va.sm root) (hln : names.length ≤ 140737488351232) (ok : Nat → Prop) (vd vr vn : Value) (w : World) (hd : ValM ok w vd dot) (hr : ValM ok w vr root) (hn : Strs ok w vn names) :
    Calls Tryz.prog 25 #[vd, vr, .agg #[.bool rt, vn]] w fun e w' => Below w.heap.size w w' ∧ ∃ a1 c1 a2 c2, e = .returned (.tuple #[.agg #[.int .u8 ((gv (getF names (if rt then root else dot))).h.kind : Nat), .bool (gv (getF names (if rt then root else dot))).h.b, .int .i64 (gv (getF names (if rt then root else dot))).h.n, .int .u64 ((gv (getF names (if rt then root else dot))).h.bits : Nat), .string (gv (getF names (if rt then root else dot))).h.text, .slice a1 (gv (getF names (if rt then root else dot))).h.keys.length c1, .slice a2 (gv (getF names (if rt then root else dot))).items.len c2], .int .i64 (ge (getF names (if rt then root else dot)) : Nat)]) ∧
      ValS (Nu w.heap.size w') w' (gv (getF names (if rt then root else dot))) a1 c1 a2 c2 ∧ Va.sm (gv (getF names (if rt then root else dot))) := by
  refine (get_calls dot root rt names hsd hsr hln ok vd vr vn w hd hr hn).mono ?_
  generalize getF names (if rt then root else dot) = r
  rintro e w' ⟨h1, h2⟩
  refine ⟨h1, ?_⟩
  cases r with
  | ok x =>
    obtain ⟨v', rfl, hv, hs⟩ := h2
    obtain ⟨a1, c1, a2, c2, rfl, hvs⟩ := ValM.vals hv
    exact ⟨a1, c1, a2, c2, rfl, hvs, hs⟩
  | error n =>
    have h2' : e = _ := h2
    exact ⟨none, 0, none, 0, h2', ⟨Strs.nil _ _, Vals.nil _ _⟩, sm_zero⟩
theorem ge_ok {l : List ByteArray} {v : Va} : ge (getF l v) = 0 ↔ ∃ x, getF l v = .ok x := by
  cases h : getF l v with
  | ok x => exact ⟨fun _ => ⟨x, rfl⟩, fun _ => rfl⟩
  | error n =>
    have := getF_err _ _ _ h
    constructor
    · intro h0
      have : n = 0 := h0
      omega
    · rintro ⟨x, hx⟩; cases hx
/-- A path in two. -/
theorem path_two (l : List ByteArray) (k : Nat) (v : Va) : (ge (getF (l.take k) v) ≠ 0 → ge (getF l v) = ge (getF (l.take k) v)) ∧ (ge (getF (l.take k) v) = 0 → getF l v = getF (l.drop k) (gv (getF (l.take k) v))) := by
  have h : getF l v = getF (l.take k ++ l.drop k) v := by rw [List.take_append_drop]
  rw [getF_app] at h
  cases hg : getF (l.take k) v with
  | ok x =>
    rw [hg] at h
    exact ⟨fun h0 => absurd rfl h0, fun _ => h⟩
  | error n =>
    rw [hg] at h
    refine ⟨fun _ => by rw [h], fun h0 => ?_⟩
    have := getF_err _ _ _ hg
    have : n = 0 := h0
    omega
theorem run_slice_to (a : Option Addr) (n c k : Nat) (hk : k ≤ c) (w : World) : (Instr.slice 28 (.slice a n c) none (some (.int .i64 (k : Nat))) none).run Tryz.prog w = .ok (.slice a k c) w := by
  have h1 : (0 : Int) ≤ (k : Int) := by omega
  have h2 : (k : Int) ≤ (c : Int) := by omega
  have hs : (sizeOf 9).run Tryz.prog w = .ok 1 w := by kernel_rfl
  have hb : (Instr.sliceBound (.int .i64 (k : Nat)) c .sliceAcap).run Tryz.prog w = .ok k w := by simp [Instr.sliceBound, asIntOf, h1, h2, go_sem]
  have ha : (a.map fun x => x.add 0) = a := by cases a <;> rfl
  simp [Instr.slice, run_underlying Tryz.underlying28, Instr.sliceBounds, hb, hs, Result.andThen, go_sem, ha]
theorem run_slice_from (a : Option Addr) (n c k : Nat) (hk : k ≤ n) (w : World) : (Instr.slice 28 (.slice a n c) (some (.int .i64 (k : Nat))) none none).run Tryz.prog w = .ok (.slice (if c = k then a else a.map fun x => x.add k) (n - k) (c - k)) w := by
  have h1 : (0 : Int) ≤ (k : Int) := by omega
  have h2 : (k : Int) ≤ (n : Int) := by omega
  have hs : (sizeOf 9).run Tryz.prog w = .ok 1 w := by kernel_rfl
  have hb : (Instr.sliceBound (.int .i64 (k : Nat)) n .sliceB).run Tryz.prog w = .ok k w := by simp [Instr.sliceBound, asIntOf, h1, h2, go_sem]
  simp [Instr.slice, run_underlying Tryz.underlying28, Instr.sliceBounds, hb, hs, Result.andThen, go_sem]
theorem strs_take {ok : Nat → Prop} {w : World} {a : Option Addr} {l : List ByteArray} {c k : Nat} (h : Strs ok w (.slice a l.length c) l) (hk : k ≤ l.length) : Strs ok w (.slice a k c) (l.take k) := by
  obtain ⟨a', c', he, h1, h2, h3⟩ := h
  cases he
  have hl : (l.take k).length = k := by rw [List.length_take]; omega
  refine ⟨a, c, by rw [hl], by omega, h2, fun hn => ?_⟩
  obtain ⟨b, o, q1, q2, q3⟩ := h3 (fun e => hn (by rw [e]; simp))
  exact ⟨b, o, q1, q2, fun i s hi => q3 i s (by rw [List.getElem?_take] at hi; split at hi; exact hi; cases hi)⟩
theorem strs_drop {ok : Nat → Prop} {w : World} {a : Option Addr} {l : List ByteArray} {c k : Nat} (h : Strs ok w (.slice a l.length c) l) (hk : k ≤ l.length) : Strs ok w (.slice (if c = k then a else a.map fun x => x.add k) (l.length - k) (c - k)) (l.drop k) := by
  obtain ⟨a', c', he, h1, h2, h3⟩ := h
  cases he
  refine ⟨_, c - k, by rw [List.length_drop], by rw [List.length_drop]; omega, by omega, fun hn => ?_⟩
  obtain ⟨b, o, rfl, q2, q3⟩ := h3 (fun e => hn (by rw [e]; simp))
  have hlt : k < l.length := by
    rcases Nat.lt_or_ge k l.length with h | h
    · exact h
    · exact absurd (List.drop_of_length_le h) hn
  rw [if_neg (by omega)]
  refine ⟨b, o + k, ?_, q2, fun i s hi => ?_⟩
  · show some ((⟨b, o, none⟩ : Addr).add k) = _
    congr 1
    unfold Addr.add
    split <;> simp_all
  · rw [List.getElem?_drop] at hi
    rw [Nat.add_assoc]
    exact q3 _ s hi
end Go.Proofs.YtepcpgdfbaklfaaGreatDoor
set_option linter.unusedSimpArgs false
set_option linter.unusedVariables false
namespace Go.Proofs.YtepcpgdfbaklfaaGreatDoor
open Go.RowKit Go.Shelf Ev
attribute [local go_sem ↓] Go.wp_at_zero Go.wp_at_succ

set_option maxRecDepth 100000 in
set_option maxHeartbeats 40000000 in
theorem evalPaths_walk (dot root : Va) (hwd : Va.wf dot) (hwr : Va.wf root) (rt : Bool) (names : List ByteArray) (hnl : names.length ≤ 140737488351232) (at_ : Int) (d1 d2 r1 r2 an : Option Addr) (e1 e2 f1 f2 cn : Nat) (w : World) (hg : Gd w)
    (hd : ValS (· < w.heap.size) w dot d1 e1 d2 e2) (hr : ValS (· < w.heap.size) w root r1 f1 r2 f2) (hn : Strs (· < w.heap.size) w (.slice an names.length cn) names) :
    Calls Tryz.prog 7 #[.agg #[.int .u8 (dot.h.kind : Nat), .bool dot.h.b, .int .i64 dot.h.n, .int .u64 (dot.h.bits : Nat), .string dot.h.text, .slice d1 dot.h.keys.length e1, .slice d2 dot.items.len e2], .agg #[.int .u8 (root.h.kind : Nat), .bool root.h.b, .int .i64 root.h.n, .int .u64 (root.h.bits : Nat), .string root.h.text, .slice r1 root.h.keys.length f1, .slice r2 root.items.len f2], .agg #[.bool rt, .slice an names.length cn], .int .i64 at_] w fun e w' => e = .returned (.bool true) ∧ Below w.heap.size w w' := by
  have WC : Hid (∀ W, Below w.heap.size w W → Calls Tryz.prog 8 #[] W fun e w' => e = .returned (.bool true) ∧ Below W.heap.size W w') := fun W hW => works_calls W (hg.belowB hg.glB hW)
  have WD : Hid (∀ W, Below w.heap.size w W → Calls Tryz.prog 24 #[.agg #[.int .u8 (dot.h.kind : Nat), .bool dot.h.b, .int .i64 dot.h.n, .int .u64 (dot.h.bits : Nat), .string dot.h.text, .slice d1 dot.h.keys.length e1, .slice d2 dot.items.len e2], .int .i64 2048] W (WvP 2048 dot W)) := fun W hW => weighValue_calls dot 2048 (by decide) _ _ W hwd (hd.kept (Kept.of_below hW)).val
  have WR : Hid (∀ W, Below w.heap.size w W → Calls Tryz.prog 24 #[.agg #[.int .u8 (root.h.kind : Nat), .bool root.h.b, .int .i64 root.h.n, .int .u64 (root.h.bits : Nat), .string root.h.text, .slice r1 root.h.keys.length f1, .slice r2 root.items.len f2], .int .i64 2048] W (WvP 2048 root W)) := fun W hW => weighValue_calls root 2048 (by decide) _ _ W hwr (hr.kept (Kept.of_below hW)).val
  have HDV := Lib.hid hd
  have HRV := Lib.hid hr
  have HNV := Lib.hid hn
  have HWD := Lib.hid hwd
  have HWR := Lib.hid hwr
  clear hwd hwr hg hd hr hn
  have HT : Hid (∀ W0, (((w.alloc (.cells #[.int .u8 (dot.h.kind : Nat), .bool dot.h.b, .int .i64 dot.h.n, .int .u64 (dot.h.bits : Nat), .string dot.h.text, .slice d1 dot.h.keys.length e1, .slice d2 dot.items.len e2] 31)).alloc (.cells #[.int .u8 (root.h.kind : Nat), .bool root.h.b, .int .i64 root.h.n, .int .u64 (root.h.bits : Nat), .string root.h.text, .slice r1 root.h.keys.length f1, .slice r2 root.items.len f2] 31)).alloc (.cells #[.bool rt, .slice an names.length cn] 54)) = W0 → Below w.heap.size w W0 ∧ W0.heap.size = w.heap.size + 3 ∧ W0.heap[w.heap.size]? = some (.cells #[.int .u8 (dot.h.kind : Nat), .bool dot.h.b, .int .i64 dot.h.n, .int .u64 (dot.h.bits : Nat), .string dot.h.text, .slice d1 dot.h.keys.length e1, .slice d2 dot.items.len e2] 31 (0, 0)) ∧ W0.heap[w.heap.size + 1]? = some (.cells #[.int .u8 (root.h.kind : Nat), .bool root.h.b, .int .i64 root.h.n, .int .u64 (root.h.bits : Nat), .string root.h.text, .slice r1 root.h.keys.length f1, .slice r2 root.items.len f2] 31 (0, 0)) ∧ W0.heap[w.heap.size + 2]? = some (.cells #[.bool rt, .slice an names.length cn] 54 (0, 0))) := by
    rintro W0 rfl
    have n0 := heap_alloc_new w (.cells #[.int .u8 (dot.h.kind : Nat), .bool dot.h.b, .int .i64 dot.h.n, .int .u64 (dot.h.bits : Nat), .string dot.h.text, .slice d1 dot.h.keys.length e1, .slice d2 dot.items.len e2] 31)
    have n1 := heap_alloc_new (w.alloc (.cells #[.int .u8 (dot.h.kind : Nat), .bool dot.h.b, .int .i64 dot.h.n, .int .u64 (dot.h.bits : Nat), .string dot.h.text, .slice d1 dot.h.keys.length e1, .slice d2 dot.items.len e2] 31)) (.cells #[.int .u8 (root.h.kind : Nat), .bool root.h.b, .int .i64 root.h.n, .int .u64 (root.h.bits : Nat), .string root.h.text, .slice r1 root.h.keys.length f1, .slice r2 root.items.len f2] 31)
    have n2 := heap_alloc_new ((w.alloc (.cells #[.int .u8 (dot.h.kind : Nat), .bool dot.h.b, .int .i64 dot.h.n, .int .u64 (dot.h.bits : Nat), .string dot.h.text, .slice d1 dot.h.keys.length e1, .slice d2 dot.items.len e2] 31)).alloc (.cells #[.int .u8 (root.h.kind : Nat), .bool root.h.b, .int .i64 root.h.n, .int .u64 (root.h.bits : Nat), .string root.h.text, .slice r1 root.h.keys.length f1, .slice r2 root.items.len f2] 31)) (.cells #[.bool rt, .slice an names.length cn] 54)
    simp only [World.size_alloc, Nat.add_assoc, Nat.reduceAdd] at n1 n2
    refine ⟨(((Below.refl _ w).alloc (Nat.le_refl _) _).alloc (by simp) _).alloc (by simp <;> omega) _, by simp, ?_, ?_, n2⟩
    · exact (Below.heap_alloc _ _ _ (by simp <;> omega)).trans ((Below.heap_alloc _ _ _ (by simp)).trans n0)
    · exact (Below.heap_alloc _ _ _ (by simp)).trans n1
  go_enter Tryz.func7, Tryz.ntmps7
  go_upto_region 1 with (fail)
  try simp only [Nat.add_assoc, Nat.reduceAdd]
  generalize hWW : World.alloc (World.alloc (World.alloc w _) _) _ = w0 at *
  obtain ⟨hb0, hz0, hd0, hr0, hq0⟩ := HT.out w0 rfl
  clear hWW HT
  have HB0 := Lib.hid hb0
  have HD0 := Lib.hid hd0
  have HR0 := Lib.hid hr0
  have HQ0 := Lib.hid hq0
  clear hb0 hd0 hr0 hq0
  go_wp2_with fail
  refine (WC.out w0 HB0.out).mono ?_
  rintro e w1 ⟨rfl, hb1⟩
  have HB1 : Hid (Below w.heap.size w w1) := HB0.out.trans (hb1.mono (by omega))
  have hz1 : w.heap.size + 3 ≤ w1.heap.size := by have := hb1.size; omega
  have HD1 := Lib.hid ((hb1.block _ (by omega)).trans HD0.out)
  have HR1 := Lib.hid ((hb1.block _ (by omega)).trans HR0.out)
  have HQ1 := Lib.hid ((hb1.block _ (by omega)).trans HQ0.out)
  clear hb1 hz0
  obtain ⟨x0, x1, x2, x3, x4, x5, x6⟩ := xcCs (h := dot.h) HD1.out
  obtain ⟨y0, y1, y2, y3, y4, y5, y6⟩ := xcCs (h := root.h) HR1.out
  have z0 : w1.cell? ⟨w.heap.size + 2, 0, none⟩ = some (.bool rt) := by rw [cell_of_heap' HQ1.out]; rfl
  have z1 : w1.cell? ⟨w.heap.size + 2, 1, none⟩ = some (.slice an names.length cn) := by rw [cell_of_heap' HQ1.out]; rfl
  go_upto_region 4 with (fail)
  go_wp2_with fail
  refine (WD.out w1 HB1.out).mono ?_
  rintro e w2 ⟨rfl, hb2⟩
  have HB2 : Hid (Below w.heap.size w w2) := HB1.out.trans (hb2.mono (by omega))
  have hz2 : w.heap.size + 3 ≤ w2.heap.size := by have := hb2.size; omega
  have HD2 := Lib.hid ((hb2.block _ (by omega)).trans HD1.out)
  have HR2 := Lib.hid ((hb2.block _ (by omega)).trans HR1.out)
  have HQ2 := Lib.hid ((hb2.block _ (by omega)).trans HQ1.out)
  clear hb2 hz1 x0 x1 x2 x3 x4 x5 x6 y0 y1 y2 y3 y4 y5 y6 z0 z1
  obtain ⟨x0, x1, x2, x3, x4, x5, x6⟩ := xcCs (h := dot.h) HD2.out
  obtain ⟨y0, y1, y2, y3, y4, y5, y6⟩ := xcCs (h := root.h) HR2.out
  have z0 : w2.cell? ⟨w.heap.size + 2, 0, none⟩ = some (.bool rt) := by rw [cell_of_heap' HQ2.out]; rfl
  have z1 : w2.cell? ⟨w.heap.size + 2, 1, none⟩ = some (.slice an names.length cn) := by rw [cell_of_heap' HQ2.out]; rfl
  by_cases hw1 : wvF 2048 dot ≤ 2048
  rotate_left
  · have hgd : decide ((2048 : Int) < (wvF 2048 dot : Int)) = true := decide_eq_true (by omega)
    have hgl : (2048 : Int) < (wvF 2048 dot : Int) := by omega
    clear hw1
    go_wp2_with fail
    go_ret
    exact ⟨rfl, HB2.out⟩
  have hgd : decide ((2048 : Int) < (wvF 2048 dot : Int)) = false := decide_eq_false (by omega)
  have HSD := Lib.hid (Va.wf_sm HWD.out hw1)
  clear hw1
  go_wp2_with fail
  refine (WR.out w2 HB2.out).mono ?_
  rintro e w3 ⟨rfl, hb3⟩
  have HB3 : Hid (Below w.heap.size w w3) := HB2.out.trans (hb3.mono (by omega))
  have hz3 : w.heap.size + 3 ≤ w3.heap.size := by have := hb3.size; omega
  have HD3 := Lib.hid ((hb3.block _ (by omega)).trans HD2.out)
  have HR3 := Lib.hid ((hb3.block _ (by omega)).trans HR2.out)
  have HQ3 := Lib.hid ((hb3.block _ (by omega)).trans HQ2.out)
  clear hb3 hz2 hgd x0 x1 x2 x3 x4 x5 x6 y0 y1 y2 y3 y4 y5 y6 z0 z1
  obtain ⟨x0, x1, x2, x3, x4, x5, x6⟩ := xcCs (h := dot.h) HD3.out
  obtain ⟨y0, y1, y2, y3, y4, y5, y6⟩ := xcCs (h := root.h) HR3.out
  have z0 : w3.cell? ⟨w.heap.size + 2, 0, none⟩ = some (.bool rt) := by rw [cell_of_heap' HQ3.out]; rfl
  have z1 : w3.cell? ⟨w.heap.size + 2, 1, none⟩ = some (.slice an names.length cn) := by rw [cell_of_heap' HQ3.out]; rfl
  by_cases hw2 : wvF 2048 root ≤ 2048
  rotate_left
  · have hgd : decide ((2048 : Int) < (wvF 2048 root : Int)) = true := decide_eq_true (by omega)
    clear hw2
    go_wp2_with fail
    go_ret
    exact ⟨rfl, HB3.out⟩
  have hgd : decide ((2048 : Int) < (wvF 2048 root : Int)) = false := decide_eq_false (by omega)
  have HSR := Lib.hid (Va.wf_sm HWR.out hw2)
  clear hw2
  by_cases hl : names.length ≤ 2048
  rotate_left
  · have hgl : decide ((2048 : Int) < (names.length : Int)) = true := decide_eq_true (by omega)
    go_wp2_with fail
    go_ret
    exact ⟨rfl, HB3.out⟩
  have hgl : decide ((2048 : Int) < (names.length : Int)) = false := decide_eq_false (by omega)
  obtain ⟨k, hk⟩ : ∃ k : Nat, min (max at_ 0) (names.length : Int) = (k : Int) := ⟨(min (max at_ 0) (names.length : Int)).toNat, by omega⟩
  have hkl : k ≤ names.length := by omega
  have hcn : names.length ≤ cn := by obtain ⟨a', c', he, h1, -⟩ := HNV.out; cases he; exact h1
  go_upto_region 6 with (fail)
  clear hgd hgl
  go_upto_region 7 with (fail)
  have GT : Hid (∀ W x (rt' : Bool) l vx vn, Below w.heap.size w W → Va.sm x → l.length ≤ 140737488351232 → ValM (· < W.heap.size) W vx x → Strs (· < W.heap.size) W vn l → Calls Tryz.prog 25 #[vx, .agg #[.int .u8 (root.h.kind : Nat), .bool root.h.b, .int .i64 root.h.n, .int .u64 (root.h.bits : Nat), .string root.h.text, .slice r1 root.h.keys.length f1, .slice r2 root.items.len f2], .agg #[.bool rt', vn]] W fun e w' => Below W.heap.size W w' ∧ ∃ a1 c1 a2 c2, e = .returned (.tuple #[.agg #[.int .u8 ((gv (getF l (if rt' then root else x))).h.kind : Nat), .bool (gv (getF l (if rt' then root else x))).h.b, .int .i64 (gv (getF l (if rt' then root else x))).h.n, .int .u64 ((gv (getF l (if rt' then root else x))).h.bits : Nat), .string (gv (getF l (if rt' then root else x))).h.text, .slice a1 (gv (getF l (if rt' then root else x))).h.keys.length c1, .slice a2 (gv (getF l (if rt' then root else x))).items.len c2], .int .i64 (ge (getF l (if rt' then root else x)) : Nat)]) ∧
      ValS (Nu W.heap.size w') w' (gv (getF l (if rt' then root else x))) a1 c1 a2 c2 ∧ Va.sm (gv (getF l (if rt' then root else x)))) := fun W x rt' l vx vn hW hs hl hx hv => getE_calls x root rt' l hs HSR.out hl _ _ _ _ W hx ((HRV.out.kept (Kept.of_below hW)).mono (fun b hb => Nat.lt_of_lt_of_le hb hW.size)).val hv
  have DV : Hid (∀ W, Below w.heap.size w W → ValM (· < W.heap.size) W (.agg #[.int .u8 (dot.h.kind : Nat), .bool dot.h.b, .int .i64 dot.h.n, .int .u64 (dot.h.bits : Nat), .string dot.h.text, .slice d1 dot.h.keys.length e1, .slice d2 dot.items.len e2]) dot) := fun W hW => ((HDV.out.kept (Kept.of_below hW)).mono (fun b hb => Nat.lt_of_lt_of_le hb hW.size)).val
  have NV : Hid (∀ W, Below w.heap.size w W → Strs (· < W.heap.size) W (.slice an names.length cn) names) := fun W hW => (HNV.out.kept (Kept.of_below hW)).mono (fun b hb => Nat.lt_of_lt_of_le hb hW.size)
  have G1 := Lib.hid (GT.out w3 dot rt names _ _ HB3.out HSD.out hnl (DV.out w3 HB3.out) (NV.out w3 HB3.out))
  obtain ⟨ra, hra⟩ : ∃ ra, getF names (if rt then root else dot) = ra := ⟨_, rfl⟩
  have HRA := Lib.hid hra
  rw [hra] at G1
  clear hra
  go_wp2_with fail
  refine G1.out.mono ?_
  rintro e w4 ⟨hb4, a1, b1, a2, b2, rfl, hva, hsa⟩
  have HB4 : Hid (Below w.heap.size w w4) := HB3.out.trans (hb4.mono (by omega))
  have hz4 : w.heap.size + 3 ≤ w4.heap.size := by have := hb4.size; omega
  have HD4 := Lib.hid ((hb4.block _ (by omega)).trans HD3.out)
  have HR4 := Lib.hid ((hb4.block _ (by omega)).trans HR3.out)
  have HQ4 := Lib.hid ((hb4.block _ (by omega)).trans HQ3.out)
  have HVA := Lib.hid hva
  have HSA := Lib.hid hsa
  clear hb4 hz3 hva hsa G1 x0 x1 x2 x3 x4 x5 x6 y0 y1 y2 y3 y4 y5 y6 z0 z1
  have HA4 : Hid (Below w4.heap.size w4 (w4.alloc (.cells #[.int .u8 ((gv ra).h.kind : Nat), .bool (gv ra).h.b, .int .i64 (gv ra).h.n, .int .u64 ((gv ra).h.bits : Nat), .string (gv ra).h.text, .slice a1 (gv ra).h.keys.length b1, .slice a2 (gv ra).items.len b2] 31))) := (Below.refl _ w4).alloc (Nat.le_refl _) _
  have HX4 : Hid ((w4.alloc (.cells #[.int .u8 ((gv ra).h.kind : Nat), .bool (gv ra).h.b, .int .i64 (gv ra).h.n, .int .u64 ((gv ra).h.bits : Nat), .string (gv ra).h.text, .slice a1 (gv ra).h.keys.length b1, .slice a2 (gv ra).items.len b2] 31)).heap[w4.heap.size]? = some (.cells #[.int .u8 ((gv ra).h.kind : Nat), .bool (gv ra).h.b, .int .i64 (gv ra).h.n, .int .u64 ((gv ra).h.bits : Nat), .string (gv ra).h.text, .slice a1 (gv ra).h.keys.length b1, .slice a2 (gv ra).items.len b2] 31 (0, 0))) := heap_alloc_new w4 _
  have HZ4 : Hid ((w4.alloc (.cells #[.int .u8 ((gv ra).h.kind : Nat), .bool (gv ra).h.b, .int .i64 (gv ra).h.n, .int .u64 ((gv ra).h.bits : Nat), .string (gv ra).h.text, .slice a1 (gv ra).h.keys.length b1, .slice a2 (gv ra).items.len b2] 31)).heap.size = w4.heap.size + 1) := by unfold Hid; simp
  go_upto_region 8 with (fail)
  generalize hWW : World.alloc w4 _ = w5 at *
  clear hWW
  have hz5 : w.heap.size + 3 < w5.heap.size := by have := HZ4.out; omega
  have HB5 : Hid (Below w.heap.size w w5) := HB4.out.trans (HA4.out.mono (by omega))
  have HD5 := Lib.hid ((HA4.out.block _ (by omega)).trans HD4.out)
  have HR5 := Lib.hid ((HA4.out.block _ (by omega)).trans HR4.out)
  have HQ5 := Lib.hid ((HA4.out.block _ (by omega)).trans HQ4.out)
  obtain ⟨x0, x1, x2, x3, x4, x5, x6⟩ := xcCs (h := dot.h) HD5.out
  obtain ⟨y0, y1, y2, y3, y4, y5, y6⟩ := xcCs (h := root.h) HR5.out
  have z0 : w5.cell? ⟨w.heap.size + 2, 0, none⟩ = some (.bool rt) := by rw [cell_of_heap' HQ5.out]; rfl
  have z1 : w5.cell? ⟨w.heap.size + 2, 1, none⟩ = some (.slice an names.length cn) := by rw [cell_of_heap' HQ5.out]; rfl
  have Hw5 := HB5
  have HCL : Hid (∀ W, Below w5.heap.size w5 W → W.cell? ⟨w.heap.size, 0, none⟩ = some (.int .u8 (dot.h.kind : Nat)) ∧ W.cell? ⟨w.heap.size, 1, none⟩ = some (.bool dot.h.b) ∧ W.cell? ⟨w.heap.size, 2, none⟩ = some (.int .i64 dot.h.n) ∧ W.cell? ⟨w.heap.size, 3, none⟩ = some (.int .u64 (dot.h.bits : Nat)) ∧ W.cell? ⟨w.heap.size, 4, none⟩ = some (.string dot.h.text) ∧ W.cell? ⟨w.heap.size, 5, none⟩ = some (.slice d1 dot.h.keys.length e1) ∧ W.cell? ⟨w.heap.size, 6, none⟩ = some (.slice d2 dot.items.len e2) ∧ W.cell? ⟨w.heap.size + 1, 0, none⟩ = some (.int .u8 (root.h.kind : Nat)) ∧ W.cell? ⟨w.heap.size + 1, 1, none⟩ = some (.bool root.h.b) ∧ W.cell? ⟨w.heap.size + 1, 2, none⟩ = some (.int .i64 root.h.n) ∧ W.cell? ⟨w.heap.size + 1, 3, none⟩ = some (.int .u64 (root.h.bits : Nat)) ∧ W.cell? ⟨w.heap.size + 1, 4, none⟩ = some (.string root.h.text) ∧ W.cell? ⟨w.heap.size + 1, 5, none⟩ = some (.slice r1 root.h.keys.length f1) ∧ W.cell? ⟨w.heap.size + 1, 6, none⟩ = some (.slice r2 root.items.len f2) ∧ W.cell? ⟨w.heap.size + 2, 0, none⟩ = some (.bool rt) ∧ W.cell? ⟨w.heap.size + 2, 1, none⟩ = some (.slice an names.length cn)) := fun W hW => by
    have h0 := (hW.block _ (by omega)).trans HD5.out
    have h1 := (hW.block _ (by omega)).trans HR5.out
    have h2 := (hW.block _ (by omega)).trans HQ5.out
    refine ⟨?_, ?_, ?_, ?_, ?_, ?_, ?_, ?_, ?_, ?_, ?_, ?_, ?_, ?_, ?_, ?_⟩ <;> first | (rw [cell_of_heap' h0]; rfl) | (rw [cell_of_heap' h1]; rfl) | (rw [cell_of_heap' h2]; rfl)
  have hsl : ∀ W, (Instr.slice 28 (.slice an names.length cn) none (some (.int .i64 (k : Nat))) none).run Tryz.prog W = .ok (.slice an k cn) W := fun W => run_slice_to an names.length cn k (by omega) W
  obtain ⟨rb, hrb⟩ : ∃ rb, getF (names.take k) (if rt then root else dot) = rb := ⟨_, rfl⟩
  have Hrb := Lib.hid hrb
  have GB : Hid (∀ W, Hid (Below w5.heap.size w5 W) → Calls Tryz.prog 25 #[.agg #[.int .u8 (dot.h.kind : Nat), .bool dot.h.b, .int .i64 dot.h.n, .int .u64 (dot.h.bits : Nat), .string dot.h.text, .slice d1 dot.h.keys.length e1, .slice d2 dot.items.len e2], .agg #[.int .u8 (root.h.kind : Nat), .bool root.h.b, .int .i64 root.h.n, .int .u64 (root.h.bits : Nat), .string root.h.text, .slice r1 root.h.keys.length f1, .slice r2 root.items.len f2], .agg #[.bool rt, .slice an k cn]] W fun e w' => ∃ a1 c1 a2 c2, e = .returned (.tuple #[.agg #[.int .u8 ((gv rb).h.kind : Nat), .bool (gv rb).h.b, .int .i64 (gv rb).h.n, .int .u64 ((gv rb).h.bits : Nat), .string (gv rb).h.text, .slice a1 (gv rb).h.keys.length c1, .slice a2 (gv rb).items.len c2], .int .i64 (ge rb : Nat)]) ∧ Hid (ValS (Nu W.heap.size w') w' (gv rb) a1 c1 a2 c2 ∧ Va.sm (gv rb)) ∧ Hid (Below w5.heap.size w5 w' ∧ Below W.heap.size W w')) := fun W hW => by
    have hwW : Below w.heap.size w W := Hw5.out.trans (hW.out.mono (by omega))
    have := GT.out W dot rt (names.take k) _ _ hwW HSD.out (by rw [List.length_take]; omega) (DV.out W hwW) (strs_take (NV.out W hwW) hkl)
    rw [hrb] at this
    refine this.mono ?_
    rintro e w' ⟨h1, a1, c1, a2, c2, rfl, h2, h3⟩
    exact ⟨a1, c1, a2, c2, rfl, ⟨h2, h3⟩, ⟨hW.out.trans (h1.mono hW.out.size), h1⟩⟩
  clear hrb
  have HDA : Hid (Below w5.heap.size w5 (w5.alloc (.cells #[.int .u8 0, .bool false, .int .i64 0, .int .u64 0, .string ⟨#[]⟩, .slice none 0 0, .slice none 0 0] 31)).drew) := by
    have h : Below w5.heap.size w5 (w5.alloc (.cells #[.int .u8 0, .bool false, .int .i64 0, .int .u64 0, .string ⟨#[]⟩, .slice none 0 0, .slice none 0 0] 31)) := (Below.refl _ w5).alloc (Nat.le_refl _) _
    exact ⟨h.os, h.tape, h.output, h.size, h.block⟩
  have HZA : Hid ((w5.alloc (.cells #[.int .u8 0, .bool false, .int .i64 0, .int .u64 0, .string ⟨#[]⟩, .slice none 0 0, .slice none 0 0] 31)).drew.heap.size = w5.heap.size + 1) := by unfold Hid; show (w5.alloc _).heap.size = _; simp
  have HNA : Hid ((w5.alloc (.cells #[.int .u8 0, .bool false, .int .i64 0, .int .u64 0, .string ⟨#[]⟩, .slice none 0 0, .slice none 0 0] 31)).drew.heap[w5.heap.size]? = some (.cells #[.int .u8 0, .bool false, .int .i64 0, .int .u64 0, .string ⟨#[]⟩, .slice none 0 0, .slice none 0 0] 31 (0, 0))) := heap_alloc_new w5 _
  have HDR : Hid (Below w5.heap.size w5 w5.drew) := ⟨rfl, rfl, rfl, Nat.le_refl _, fun _ _ => rfl⟩
  have HSR0 := Lib.hid (HCL.out _ HDR.out)
  have HSA0 := Lib.hid (HCL.out _ HDA.out)
  have HZC : Hid (∀ W : World, W.heap[w5.heap.size]? = some (.cells #[.int .u8 0, .bool false, .int .i64 0, .int .u64 0, .string ⟨#[]⟩, .slice none 0 0, .slice none 0 0] 31 (0, 0)) → W.cell? ⟨w5.heap.size, 0, none⟩ = some (.int .u8 0) ∧ W.cell? ⟨w5.heap.size, 1, none⟩ = some (.bool false) ∧ W.cell? ⟨w5.heap.size, 2, none⟩ = some (.int .i64 0) ∧ W.cell? ⟨w5.heap.size, 3, none⟩ = some (.int .u64 0) ∧ W.cell? ⟨w5.heap.size, 4, none⟩ = some (.string ⟨#[]⟩) ∧ W.cell? ⟨w5.heap.size, 5, none⟩ = some (.slice none 0 0) ∧ W.cell? ⟨w5.heap.size, 6, none⟩ = some (.slice none 0 0) ∧ ∀ j, W.frozen? ⟨w5.heap.size, j, none⟩ = false) := fun W h => by
    refine ⟨?_, ?_, ?_, ?_, ?_, ?_, ?_, frozen_cells h⟩ <;> (rw [cell_of_heap' h]; rfl)
  go_region_held3 (fun W => W.cell? ⟨w.heap.size, 0, none⟩ = some (.int .u8 (dot.h.kind : Nat)) ∧ W.cell? ⟨w.heap.size, 1, none⟩ = some (.bool dot.h.b) ∧ W.cell? ⟨w.heap.size, 2, none⟩ = some (.int .i64 dot.h.n) ∧ W.cell? ⟨w.heap.size, 3, none⟩ = some (.int .u64 (dot.h.bits : Nat)) ∧ W.cell? ⟨w.heap.size, 4, none⟩ = some (.string dot.h.text) ∧ W.cell? ⟨w.heap.size, 5, none⟩ = some (.slice d1 dot.h.keys.length e1) ∧ W.cell? ⟨w.heap.size, 6, none⟩ = some (.slice d2 dot.items.len e2) ∧ W.cell? ⟨w.heap.size + 1, 0, none⟩ = some (.int .u8 (root.h.kind : Nat)) ∧ W.cell? ⟨w.heap.size + 1, 1, none⟩ = some (.bool root.h.b) ∧ W.cell? ⟨w.heap.size + 1, 2, none⟩ = some (.int .i64 root.h.n) ∧ W.cell? ⟨w.heap.size + 1, 3, none⟩ = some (.int .u64 (root.h.bits : Nat)) ∧ W.cell? ⟨w.heap.size + 1, 4, none⟩ = some (.string root.h.text) ∧ W.cell? ⟨w.heap.size + 1, 5, none⟩ = some (.slice r1 root.h.keys.length f1) ∧ W.cell? ⟨w.heap.size + 1, 6, none⟩ = some (.slice r2 root.items.len f2) ∧ W.cell? ⟨w.heap.size + 2, 0, none⟩ = some (.bool rt) ∧ W.cell? ⟨w.heap.size + 2, 1, none⟩ = some (.slice an names.length cn)) (first | with_reducible exact HSR0.out | with_reducible exact HSA0.out | with_reducible exact HS6.out | with_reducible exact HS8.out | with_reducible exact HS9.out)
        (first | (go_at_call 25; refine (GB.out _ HDA).mono ?_; rintro e w6 ⟨i1rb, j1rb, i2rb, j2rb, rfl, hvb, hb6⟩; have HS6 := Lib.hid (HCL.out w6 hb6.out.1); have hn6 := (hb6.out.2.block w5.heap.size (by rw [HZA.out]; omega)).trans HNA.out; obtain ⟨t0, t1, t2, t3, t4, t5, t6, tz⟩ := HZC.out w6 hn6; have HN6 := Lib.hid hn6; have HST := Lib.hid (set7 (p := 0) (.int .u8 ((gv rb).h.kind : Nat)) (.bool (gv rb).h.b) (.int .i64 (gv rb).h.n) (.int .u64 ((gv rb).h.bits : Nat)) (.string (gv rb).h.text) (.slice i1rb (gv rb).h.keys.length j1rb) (.slice i2rb (gv rb).items.len j2rb) t0 t1 t2 t3 t4 t5 t6); clear hn6; simp only [Nat.zero_add] at HST; have HS8 := Lib.hid (HCL.out _ (hb6.out.1.trans (HST.out.below (Nat.le_refl _))))) | (go_at_call 25; refine (GB.out _ HDR).mono ?_; rintro e w6 ⟨i1rb, j1rb, i2rb, j2rb, rfl, hvb, hb6⟩; have HS6 := Lib.hid (HCL.out w6 hb6.out.1); have HS8 := Lib.hid (HCL.out (w6.alloc (.cells #[.int .u8 0, .bool false, .int .i64 0, .int .u64 0, .string ⟨#[]⟩, .slice none 0 0, .slice none 0 0] 31)) (hb6.out.1.alloc hb6.out.1.size _)); have HS9 := Lib.hid (HCL.out (w6.alloc (.cells #[.int .u8 ((gv rb).h.kind : Nat), .bool (gv rb).h.b, .int .i64 (gv rb).h.n, .int .u64 ((gv rb).h.bits : Nat), .string (gv rb).h.text, .slice i1rb (gv rb).h.keys.length j1rb, .slice i2rb (gv rb).items.len j2rb] 31)) (hb6.out.1.alloc hb6.out.1.size _))))
  have hbn : Below w5.heap.size w5 (w6.alloc (.cells #[.int .u8 ((gv rb).h.kind : Nat), .bool (gv rb).h.b, .int .i64 (gv rb).h.n, .int .u64 ((gv rb).h.bits : Nat), .string (gv rb).h.text, .slice i1rb (gv rb).h.keys.length j1rb, .slice i2rb (gv rb).items.len j2rb] 31)) := hb6.out.1.alloc hb6.out.1.size _
  have hxn := heap_alloc_new w6 (.cells #[.int .u8 ((gv rb).h.kind : Nat), .bool (gv rb).h.b, .int .i64 (gv rb).h.n, .int .u64 ((gv rb).h.bits : Nat), .string (gv rb).h.text, .slice i1rb (gv rb).h.keys.length j1rb, .slice i2rb (gv rb).items.len j2rb] 31)
  have hvn : ValS (Nu w5.heap.size (w6.alloc (.cells #[.int .u8 ((gv rb).h.kind : Nat), .bool (gv rb).h.b, .int .i64 (gv rb).h.n, .int .u64 ((gv rb).h.bits : Nat), .string (gv rb).h.text, .slice i1rb (gv rb).h.keys.length j1rb, .slice i2rb (gv rb).items.len j2rb] 31))) (w6.alloc (.cells #[.int .u8 ((gv rb).h.kind : Nat), .bool (gv rb).h.b, .int .i64 (gv rb).h.n, .int .u64 ((gv rb).h.bits : Nat), .string (gv rb).h.text, .slice i1rb (gv rb).h.keys.length j1rb, .slice i2rb (gv rb).items.len j2rb] 31)) (gv rb) i1rb j1rb i2rb j2rb := (hvb.out.1.kept (fun b hb => Below.heap_alloc _ _ _ hb.2.1)).mono fun b hb => ⟨hb.1, by simp; have := hb.2.1; omega, hb.2.2.same (Below.heap_alloc _ _ _ hb.2.1)⟩
  have hxl : w5.heap.size ≤ w6.heap.size := hb6.out.1.size
  have hsn := hvb.out.2
  have HBN := Lib.hid hbn
  have HXN := Lib.hid hxn
  have HVN := Lib.hid hvn
  have HSN := Lib.hid hsn
  clear HCL GB HDA HZA HNA HDR HSR0 HSA0 HZC HS6 HS8 HS9 hvb hb6 hbn hxn hvn hsn
  generalize hWW : World.alloc w6 _ = w7 at *
  generalize hXX : w6.heap.size = X7 at *
  clear hWW hXX
  rotate_left
  have hbn := hb6.out.1.trans (HST.out.below (Nat.le_refl _))
  have hxn := set7_blk HN6.out (.int .u8 ((gv rb).h.kind : Nat)) (.bool (gv rb).h.b) (.int .i64 (gv rb).h.n) (.int .u64 ((gv rb).h.bits : Nat)) (.string (gv rb).h.text) (.slice i1rb (gv rb).h.keys.length j1rb) (.slice i2rb (gv rb).items.len j2rb)
  have hxl : w5.heap.size ≤ w5.heap.size := Nat.le_refl _
  have hsn := hvb.out.2
  have HBN := Lib.hid hbn
  have HXN := Lib.hid hxn
  have HVN0 := Lib.hid hvb.out.1
  have HSN := Lib.hid hsn
  clear HCL GB HDA HNA HDR HSR0 HSA0 HZC HS6 HS8 hvb hb6 hbn hxn hsn t0 t1 t2 t3 t4 t5 t6 tz HN6
  generalize hWW : World.setCell _ _ _ = w7 at *
  clear hWW
  have HVN : Hid (ValS (Nu w5.heap.size w7) w7 (gv rb) i1rb j1rb i2rb j2rb) := by
    have hk : ∀ b, Nu (w5.alloc (.cells #[.int .u8 0, .bool false, .int .i64 0, .int .u64 0, .string ⟨#[]⟩, .slice none 0 0, .slice none 0 0] 31)).drew.heap.size w6 b → w7.heap[b]? = w6.heap[b]? := fun b hb => HST.out.oth b (by have h1 := hb.1; rw [HZA.out] at h1; omega)
    exact (HVN0.out.kept hk).mono fun b hb => ⟨by have h1 := hb.1; rw [HZA.out] at h1; omega, by rw [HST.out.size]; exact hb.2.1, hb.2.2.same (hk b hb)⟩
  clear HST HZA HVN0
  obtain ⟨X7, hXX⟩ : ∃ X7, w5.heap.size = X7 := ⟨_, rfl⟩
  have HXN2 := HXN.out
  have hxl2 := hxl
  try rw [hXX] at HXN2
  clear HXN hxl
  have HXN := Lib.hid HXN2
  have hxl : w5.heap.size ≤ X7 := by omega
  clear HXN2 hxl2
  rw [hXX]
  all_goals
    have Hw7 : Hid (Below w.heap.size w w7) := Hw5.out.trans (HBN.out.mono (by omega))
    have hw4l : w4.heap.size < w5.heap.size := by have := HZ4.out; omega
    have H47 : Hid (Below w4.heap.size w4 w7) := HA4.out.trans (HBN.out.mono (by omega))
    have HXA7 := Lib.hid ((HBN.out.block _ hw4l).trans HX4.out)
    have HD7 := Lib.hid ((HBN.out.block _ (by omega)).trans HD5.out)
    have HR7 := Lib.hid ((HBN.out.block _ (by omega)).trans HR5.out)
    have HQ7 := Lib.hid ((HBN.out.block _ (by omega)).trans HQ5.out)
    have HXB7 := HXN
    have HVB7 := HVN
    have HSB7 := HSN
    have hx7 : X7 < w7.heap.size := lt_of_block HXN.out
    have hxw : w5.heap.size ≤ X7 := hxl
    clear HBN HXN HVN HSN hxl hsl x0 x1 x2 x3 x4 x5 x6 y0 y1 y2 y3 y4 y5 y6 z0 z1
    obtain ⟨x0, x1, x2, x3, x4, x5, x6⟩ := xcCs (h := (gv rb).h) HXB7.out
    obtain ⟨y0, y1, y2, y3, y4, y5, y6⟩ := xcCs (h := root.h) HR7.out
    have z1 : w7.cell? ⟨w.heap.size + 2, 1, none⟩ = some (.slice an names.length cn) := by rw [cell_of_heap' HQ7.out]; rfl
    go_upto_region 9 with (fail)
    have HCL : Hid (∀ W, Below w7.heap.size w7 W → W.cell? ⟨X7, 0, none⟩ = some (.int .u8 ((gv rb).h.kind : Nat)) ∧ W.cell? ⟨X7, 1, none⟩ = some (.bool (gv rb).h.b) ∧ W.cell? ⟨X7, 2, none⟩ = some (.int .i64 (gv rb).h.n) ∧ W.cell? ⟨X7, 3, none⟩ = some (.int .u64 ((gv rb).h.bits : Nat)) ∧ W.cell? ⟨X7, 4, none⟩ = some (.string (gv rb).h.text) ∧ W.cell? ⟨X7, 5, none⟩ = some (.slice i1rb (gv rb).h.keys.length j1rb) ∧ W.cell? ⟨X7, 6, none⟩ = some (.slice i2rb (gv rb).items.len j2rb) ∧ W.cell? ⟨w.heap.size + 1, 0, none⟩ = some (.int .u8 (root.h.kind : Nat)) ∧ W.cell? ⟨w.heap.size + 1, 1, none⟩ = some (.bool root.h.b) ∧ W.cell? ⟨w.heap.size + 1, 2, none⟩ = some (.int .i64 root.h.n) ∧ W.cell? ⟨w.heap.size + 1, 3, none⟩ = some (.int .u64 (root.h.bits : Nat)) ∧ W.cell? ⟨w.heap.size + 1, 4, none⟩ = some (.string root.h.text) ∧ W.cell? ⟨w.heap.size + 1, 5, none⟩ = some (.slice r1 root.h.keys.length f1) ∧ W.cell? ⟨w.heap.size + 1, 6, none⟩ = some (.slice r2 root.items.len f2) ∧ W.cell? ⟨w.heap.size + 2, 1, none⟩ = some (.slice an names.length cn)) := fun W hW => by
      have h0 := (hW.block _ (by omega)).trans HXB7.out
      have h1 := (hW.block _ (by omega)).trans HR7.out
      have h2 := (hW.block _ (by omega)).trans HQ7.out
      refine ⟨?_, ?_, ?_, ?_, ?_, ?_, ?_, ?_, ?_, ?_, ?_, ?_, ?_, ?_, ?_⟩ <;> first | (rw [cell_of_heap' h0]; rfl) | (rw [cell_of_heap' h1]; rfl) | (rw [cell_of_heap' h2]; rfl)
    obtain ⟨sa, sc, hsl, hss⟩ : ∃ sa sc, (∀ W, (Instr.slice 28 (.slice an names.length cn) (some (.int .i64 (k : Nat))) none none).run Tryz.prog W = .ok (.slice sa (names.length - k) sc) W) ∧ (∀ W, Below w.heap.size w W → Strs (· < W.heap.size) W (.slice sa (names.length - k) sc) (names.drop k)) :=
      ⟨_, _, fun W => run_slice_from an names.length cn k hkl W, fun W hW => strs_drop (NV.out W hW) hkl⟩
    have HSS := Lib.hid hss
    clear hss
    obtain ⟨rc, hrb⟩ : ∃ rc, getF (names.drop k) (if false then root else (gv rb)) = rc := ⟨_, rfl⟩
    have Hrc := Lib.hid hrb
    have GB : Hid (∀ W, Hid (Below w7.heap.size w7 W) → Calls Tryz.prog 25 #[.agg #[.int .u8 ((gv rb).h.kind : Nat), .bool (gv rb).h.b, .int .i64 (gv rb).h.n, .int .u64 ((gv rb).h.bits : Nat), .string (gv rb).h.text, .slice i1rb (gv rb).h.keys.length j1rb, .slice i2rb (gv rb).items.len j2rb], .agg #[.int .u8 (root.h.kind : Nat), .bool root.h.b, .int .i64 root.h.n, .int .u64 (root.h.bits : Nat), .string root.h.text, .slice r1 root.h.keys.length f1, .slice r2 root.items.len f2], .agg #[.bool false, .slice sa (names.length - k) sc]] W fun e w' => ∃ a1 c1 a2 c2, e = .returned (.tuple #[.agg #[.int .u8 ((gv rc).h.kind : Nat), .bool (gv rc).h.b, .int .i64 (gv rc).h.n, .int .u64 ((gv rc).h.bits : Nat), .string (gv rc).h.text, .slice a1 (gv rc).h.keys.length c1, .slice a2 (gv rc).items.len c2], .int .i64 (ge rc : Nat)]) ∧ Hid (ValS (Nu W.heap.size w') w' (gv rc) a1 c1 a2 c2 ∧ Va.sm (gv rc)) ∧ Hid (Below w7.heap.size w7 w' ∧ Below W.heap.size W w')) := fun W hW => by
      have hwW : Below w.heap.size w W := Hw7.out.trans (hW.out.mono (by omega))
      have := GT.out W (gv rb) false (names.drop k) _ _ hwW HSB7.out (by rw [List.length_drop]; omega) ((HVB7.out.kept (fun b hb => hW.out.block b hb.2.1)).mono fun b hb => Nat.lt_of_lt_of_le hb.2.1 hW.out.size).val (HSS.out W hwW)
      rw [hrb] at this
      refine this.mono ?_
      rintro e w' ⟨h1, a1, c1, a2, c2, rfl, h2, h3⟩
      exact ⟨a1, c1, a2, c2, rfl, ⟨h2, h3⟩, ⟨hW.out.trans (h1.mono hW.out.size), h1⟩⟩
    clear hrb
    have HDA : Hid (Below w7.heap.size w7 (w7.alloc (.cells #[.int .u8 0, .bool false, .int .i64 0, .int .u64 0, .string ⟨#[]⟩, .slice none 0 0, .slice none 0 0] 31)).drew) := by
      have h : Below w7.heap.size w7 (w7.alloc (.cells #[.int .u8 0, .bool false, .int .i64 0, .int .u64 0, .string ⟨#[]⟩, .slice none 0 0, .slice none 0 0] 31)) := (Below.refl _ w7).alloc (Nat.le_refl _) _
      exact ⟨h.os, h.tape, h.output, h.size, h.block⟩
    have HZA : Hid ((w7.alloc (.cells #[.int .u8 0, .bool false, .int .i64 0, .int .u64 0, .string ⟨#[]⟩, .slice none 0 0, .slice none 0 0] 31)).drew.heap.size = w7.heap.size + 1) := by unfold Hid; show (w7.alloc _).heap.size = _; simp
    have HNA : Hid ((w7.alloc (.cells #[.int .u8 0, .bool false, .int .i64 0, .int .u64 0, .string ⟨#[]⟩, .slice none 0 0, .slice none 0 0] 31)).drew.heap[w7.heap.size]? = some (.cells #[.int .u8 0, .bool false, .int .i64 0, .int .u64 0, .string ⟨#[]⟩, .slice none 0 0, .slice none 0 0] 31 (0, 0))) := heap_alloc_new w7 _
    have HDR : Hid (Below w7.heap.size w7 w7.drew) := ⟨rfl, rfl, rfl, Nat.le_refl _, fun _ _ => rfl⟩
    have HSR0 := Lib.hid (HCL.out _ HDR.out)
    have HSA0 := Lib.hid (HCL.out _ HDA.out)
    have HZC : Hid (∀ W : World, W.heap[w7.heap.size]? = some (.cells #[.int .u8 0, .bool false, .int .i64 0, .int .u64 0, .string ⟨#[]⟩, .slice none 0 0, .slice none 0 0] 31 (0, 0)) → W.cell? ⟨w7.heap.size, 0, none⟩ = some (.int .u8 0) ∧ W.cell? ⟨w7.heap.size, 1, none⟩ = some (.bool false) ∧ W.cell? ⟨w7.heap.size, 2, none⟩ = some (.int .i64 0) ∧ W.cell? ⟨w7.heap.size, 3, none⟩ = some (.int .u64 0) ∧ W.cell? ⟨w7.heap.size, 4, none⟩ = some (.string ⟨#[]⟩) ∧ W.cell? ⟨w7.heap.size, 5, none⟩ = some (.slice none 0 0) ∧ W.cell? ⟨w7.heap.size, 6, none⟩ = some (.slice none 0 0) ∧ ∀ j, W.frozen? ⟨w7.heap.size, j, none⟩ = false) := fun W h => by
      refine ⟨?_, ?_, ?_, ?_, ?_, ?_, ?_, frozen_cells h⟩ <;> (rw [cell_of_heap' h]; rfl)
    go_region_held3 (fun W => W.cell? ⟨X7, 0, none⟩ = some (.int .u8 ((gv rb).h.kind : Nat)) ∧ W.cell? ⟨X7, 1, none⟩ = some (.bool (gv rb).h.b) ∧ W.cell? ⟨X7, 2, none⟩ = some (.int .i64 (gv rb).h.n) ∧ W.cell? ⟨X7, 3, none⟩ = some (.int .u64 ((gv rb).h.bits : Nat)) ∧ W.cell? ⟨X7, 4, none⟩ = some (.string (gv rb).h.text) ∧ W.cell? ⟨X7, 5, none⟩ = some (.slice i1rb (gv rb).h.keys.length j1rb) ∧ W.cell? ⟨X7, 6, none⟩ = some (.slice i2rb (gv rb).items.len j2rb) ∧ W.cell? ⟨w.heap.size + 1, 0, none⟩ = some (.int .u8 (root.h.kind : Nat)) ∧ W.cell? ⟨w.heap.size + 1, 1, none⟩ = some (.bool root.h.b) ∧ W.cell? ⟨w.heap.size + 1, 2, none⟩ = some (.int .i64 root.h.n) ∧ W.cell? ⟨w.heap.size + 1, 3, none⟩ = some (.int .u64 (root.h.bits : Nat)) ∧ W.cell? ⟨w.heap.size + 1, 4, none⟩ = some (.string root.h.text) ∧ W.cell? ⟨w.heap.size + 1, 5, none⟩ = some (.slice r1 root.h.keys.length f1) ∧ W.cell? ⟨w.heap.size + 1, 6, none⟩ = some (.slice r2 root.items.len f2) ∧ W.cell? ⟨w.heap.size + 2, 1, none⟩ = some (.slice an names.length cn)) (first | with_reducible exact HSR0.out | with_reducible exact HSA0.out | with_reducible exact HS6.out | with_reducible exact HS8.out | with_reducible exact HS9.out)
          (first | (go_at_call 25; refine (GB.out _ HDA).mono ?_; rintro e w8 ⟨i1rc, j1rc, i2rc, j2rc, rfl, hvb, hb6⟩; have HS6 := Lib.hid (HCL.out w8 hb6.out.1); have hn6 := (hb6.out.2.block w7.heap.size (by rw [HZA.out]; omega)).trans HNA.out; obtain ⟨t0, t1, t2, t3, t4, t5, t6, tz⟩ := HZC.out w8 hn6; have HN6 := Lib.hid hn6; have HST := Lib.hid (set7 (p := 0) (.int .u8 ((gv rc).h.kind : Nat)) (.bool (gv rc).h.b) (.int .i64 (gv rc).h.n) (.int .u64 ((gv rc).h.bits : Nat)) (.string (gv rc).h.text) (.slice i1rc (gv rc).h.keys.length j1rc) (.slice i2rc (gv rc).items.len j2rc) t0 t1 t2 t3 t4 t5 t6); clear hn6; simp only [Nat.zero_add] at HST; have HS8 := Lib.hid (HCL.out _ (hb6.out.1.trans (HST.out.below (Nat.le_refl _))))) | (go_at_call 25; refine (GB.out _ HDR).mono ?_; rintro e w8 ⟨i1rc, j1rc, i2rc, j2rc, rfl, hvb, hb6⟩; have HS6 := Lib.hid (HCL.out w8 hb6.out.1); have HS8 := Lib.hid (HCL.out (w8.alloc (.cells #[.int .u8 0, .bool false, .int .i64 0, .int .u64 0, .string ⟨#[]⟩, .slice none 0 0, .slice none 0 0] 31)) (hb6.out.1.alloc hb6.out.1.size _)); have HS9 := Lib.hid (HCL.out (w8.alloc (.cells #[.int .u8 ((gv rc).h.kind : Nat), .bool (gv rc).h.b, .int .i64 (gv rc).h.n, .int .u64 ((gv rc).h.bits : Nat), .string (gv rc).h.text, .slice i1rc (gv rc).h.keys.length j1rc, .slice i2rc (gv rc).items.len j2rc] 31)) (hb6.out.1.alloc hb6.out.1.size _))))
    have hbn : Below w7.heap.size w7 (w8.alloc (.cells #[.int .u8 ((gv rc).h.kind : Nat), .bool (gv rc).h.b, .int .i64 (gv rc).h.n, .int .u64 ((gv rc).h.bits : Nat), .string (gv rc).h.text, .slice i1rc (gv rc).h.keys.length j1rc, .slice i2rc (gv rc).items.len j2rc] 31)) := hb6.out.1.alloc hb6.out.1.size _
    have hxn := heap_alloc_new w8 (.cells #[.int .u8 ((gv rc).h.kind : Nat), .bool (gv rc).h.b, .int .i64 (gv rc).h.n, .int .u64 ((gv rc).h.bits : Nat), .string (gv rc).h.text, .slice i1rc (gv rc).h.keys.length j1rc, .slice i2rc (gv rc).items.len j2rc] 31)
    have hvn : ValS (Nu w7.heap.size (w8.alloc (.cells #[.int .u8 ((gv rc).h.kind : Nat), .bool (gv rc).h.b, .int .i64 (gv rc).h.n, .int .u64 ((gv rc).h.bits : Nat), .string (gv rc).h.text, .slice i1rc (gv rc).h.keys.length j1rc, .slice i2rc (gv rc).items.len j2rc] 31))) (w8.alloc (.cells #[.int .u8 ((gv rc).h.kind : Nat), .bool (gv rc).h.b, .int .i64 (gv rc).h.n, .int .u64 ((gv rc).h.bits : Nat), .string (gv rc).h.text, .slice i1rc (gv rc).h.keys.length j1rc, .slice i2rc (gv rc).items.len j2rc] 31)) (gv rc) i1rc j1rc i2rc j2rc := (hvb.out.1.kept (fun b hb => Below.heap_alloc _ _ _ hb.2.1)).mono fun b hb => ⟨hb.1, by simp; have := hb.2.1; omega, hb.2.2.same (Below.heap_alloc _ _ _ hb.2.1)⟩
    have hxl : w7.heap.size ≤ w8.heap.size := hb6.out.1.size
    have hsn := hvb.out.2
    have HBN := Lib.hid hbn
    have HXN := Lib.hid hxn
    have HVN := Lib.hid hvn
    have HSN := Lib.hid hsn
    clear HCL GB HDA HZA HNA HDR HSR0 HSA0 HZC HS6 HS8 HS9 hvb hb6 hbn hxn hvn hsn
    generalize hWW : World.alloc w8 _ = w9 at *
    generalize hXX : w8.heap.size = X9 at *
    clear hWW hXX
    rotate_left
    have hbn := hb6.out.1.trans (HST.out.below (Nat.le_refl _))
    have hxn := set7_blk HN6.out (.int .u8 ((gv rc).h.kind : Nat)) (.bool (gv rc).h.b) (.int .i64 (gv rc).h.n) (.int .u64 ((gv rc).h.bits : Nat)) (.string (gv rc).h.text) (.slice i1rc (gv rc).h.keys.length j1rc) (.slice i2rc (gv rc).items.len j2rc)
    have hxl : w7.heap.size ≤ w7.heap.size := Nat.le_refl _
    have hsn := hvb.out.2
    have HBN := Lib.hid hbn
    have HXN := Lib.hid hxn
    have HVN0 := Lib.hid hvb.out.1
    have HSN := Lib.hid hsn
    clear HCL GB HDA HNA HDR HSR0 HSA0 HZC HS6 HS8 hvb hb6 hbn hxn hsn t0 t1 t2 t3 t4 t5 t6 tz HN6
    generalize hWW : World.setCell _ _ _ = w9 at *
    clear hWW
    have HVN : Hid (ValS (Nu w7.heap.size w9) w9 (gv rc) i1rc j1rc i2rc j2rc) := by
      have hk : ∀ b, Nu (w7.alloc (.cells #[.int .u8 0, .bool false, .int .i64 0, .int .u64 0, .string ⟨#[]⟩, .slice none 0 0, .slice none 0 0] 31)).drew.heap.size w8 b → w9.heap[b]? = w8.heap[b]? := fun b hb => HST.out.oth b (by have h1 := hb.1; rw [HZA.out] at h1; omega)
      exact (HVN0.out.kept hk).mono fun b hb => ⟨by have h1 := hb.1; rw [HZA.out] at h1; omega, by rw [HST.out.size]; exact hb.2.1, hb.2.2.same (hk b hb)⟩
    clear HST HZA HVN0
    obtain ⟨X9, hXX⟩ : ∃ X9, w7.heap.size = X9 := ⟨_, rfl⟩
    have HXN2 := HXN.out
    have hxl2 := hxl
    try rw [hXX] at HXN2
    clear HXN hxl
    have HXN := Lib.hid HXN2
    have hxl : w7.heap.size ≤ X9 := by omega
    clear HXN2 hxl2
    rw [hXX]
    all_goals
      have Hw9 : Hid (Below w.heap.size w w9) := Hw7.out.trans (HBN.out.mono (by omega))
      have H49 : Hid (Below w4.heap.size w4 w9) := H47.out.trans (HBN.out.mono (by omega))
      have HXA9 := Lib.hid ((HBN.out.block _ (by omega)).trans HXA7.out)
      have HD9 := Lib.hid ((HBN.out.block _ (by omega)).trans HD7.out)
      have HR9 := Lib.hid ((HBN.out.block _ (by omega)).trans HR7.out)
      have HQ9 := Lib.hid ((HBN.out.block _ (by omega)).trans HQ7.out)
      have HXC9 := HXN
      have HVC9 := HVN
      have hz9 : w.heap.size + 3 < w9.heap.size := by have := HBN.out.size; omega
      clear HBN HXN HVN HSN hxl hsl x0 x1 x2 x3 x4 x5 x6 y0 y1 y2 y3 y4 y5 y6 z1 HXB7 HVB7 HSB7 HD7 HR7 HQ7 HXA7
      by_cases hf : ge rb = 0
      rotate_left
      · have hcb : ((ge rb : Int) != 0) = true := by
          have : ((ge rb : Int) == 0) = false := beq_eq_false_iff_ne.2 (by omega)
          simp only [bne, this]; rfl
        have hee : ge ra = ge rb := by
          have h1 := (path_two names k (if rt then root else dot)).1 (by rw [Hrb.out]; exact hf)
          rwa [HRA.out, Hrb.out] at h1
        have hbb : ((ge ra : Int) == (ge rb : Int)) = true := by rw [hee]; exact beq_self_eq_true _
        clear hf hee
        go_wp2_with fail
        go_ret
        exact ⟨rfl, Hw9.out⟩
      have hcb : ((ge rb : Int) != 0) = false := by rw [hf]; rfl
      have hac : rc = ra := by
        have h1 := (path_two names k (if rt then root else dot)).2 (by rw [Hrb.out]; exact hf)
        rw [HRA.out, Hrb.out] at h1
        rw [← Hrc.out, h1]; rfl
      clear hf Hrc
      subst hac
      have SV : Hid (∀ W, Below w9.heap.size w9 W → Calls Tryz.prog 14 #[.agg #[.int .u8 ((gv rc).h.kind : Nat), .bool (gv rc).h.b, .int .i64 (gv rc).h.n, .int .u64 ((gv rc).h.bits : Nat), .string (gv rc).h.text, .slice a1 (gv rc).h.keys.length b1, .slice a2 (gv rc).items.len b2], .agg #[.int .u8 ((gv rc).h.kind : Nat), .bool (gv rc).h.b, .int .i64 (gv rc).h.n, .int .u64 ((gv rc).h.bits : Nat), .string (gv rc).h.text, .slice i1rc (gv rc).h.keys.length j1rc, .slice i2rc (gv rc).items.len j2rc]] W fun e w' => e = .returned (.bool true) ∧ Below W.heap.size W w') := fun W hW =>
        sameValue_calls (gv rc) _ _ _ _ W (Va.sm_wf HSA.out) (HVA.out.kept (fun b hb => (hW.block b (by have := H49.out.size; have := hb.2.1; omega)).trans (H49.out.block b hb.2.1))).val (HVC9.out.kept (fun b hb => hW.block b hb.2.1)).val
      obtain ⟨x0, x1, x2, x3, x4, x5, x6⟩ := xcCs (h := (gv rc).h) HXA9.out
      obtain ⟨y0, y1, y2, y3, y4, y5, y6⟩ := xcCs (h := (gv rc).h) HXC9.out
      go_wp2_with fail
      refine (SV.out _ (Below.refl _ _)).mono ?_
      rintro e w10 ⟨rfl, hb10⟩
      have Hw10 : Hid (Below w.heap.size w w10) := Hw9.out.trans (hb10.mono (by omega))
      have hz10 : w.heap.size + 3 ≤ w10.heap.size := by have := hb10.size; omega
      have HD10 := Lib.hid ((hb10.block _ (by omega)).trans HD9.out)
      have HR10 := Lib.hid ((hb10.block _ (by omega)).trans HR9.out)
      have HQ10 := Lib.hid ((hb10.block _ (by omega)).trans HQ9.out)
      clear hb10 SV x0 x1 x2 x3 x4 x5 x6 y0 y1 y2 y3 y4 y5 y6 HXA9 HXC9 HVC9 HVA HX4 HD9 HR9 HQ9 HD5 HR5 HQ5 HD4 HR4 HQ4
      obtain ⟨rd, hrd⟩ : ∃ rd, getF names root = rd := ⟨_, rfl⟩
      have hrd1 : getF names (if true then root else zeroVa) = rd := hrd
      have hG4 := GT.out w10 zeroVa true names (.agg #[.int .u8 0, .bool false, .int .i64 0, .int .u64 0, .string ⟨#[]⟩, .slice none 0 0, .slice none 0 0]) _ Hw10.out sm_zero hnl ⟨_, _, rfl, Strs.nil _ _, Vals.nil _ _⟩ (NV.out w10 Hw10.out)
      rw [hrd1] at hG4
      have G4 := Lib.hid hG4
      have HRD2 := Lib.hid hrd
      clear hG4 hrd hrd1
      obtain ⟨y0, y1, y2, y3, y4, y5, y6⟩ := xcCs (h := root.h) HR10.out
      have z1 : w10.cell? ⟨w.heap.size + 2, 1, none⟩ = some (.slice an names.length cn) := by rw [cell_of_heap' HQ10.out]; rfl
      go_wp2_with fail
      refine G4.out.mono ?_
      rintro e w11 ⟨hbr, m1, n1, m2, n2, rfl, hvr, hsr⟩
      have HBw11 : Hid (Below w.heap.size w w11) := Hw10.out.trans (hbr.mono (by omega))
      have hzw11 : w.heap.size + 3 ≤ w11.heap.size := by have := hbr.size; omega
      have HDr := Lib.hid ((hbr.block _ (by omega)).trans HD10.out)
      have HRr := Lib.hid ((hbr.block _ (by omega)).trans HR10.out)
      have HQr := Lib.hid ((hbr.block _ (by omega)).trans HQ10.out)
      have HVVD := Lib.hid hvr
      have HSVD := Lib.hid hsr
      have HAw12 : Hid (Below w11.heap.size w11 (w11.alloc (.cells #[.int .u8 ((gv rd).h.kind : Nat), .bool (gv rd).h.b, .int .i64 (gv rd).h.n, .int .u64 ((gv rd).h.bits : Nat), .string (gv rd).h.text, .slice m1 (gv rd).h.keys.length n1, .slice m2 (gv rd).items.len n2] 31))) := (Below.refl _ w11).alloc (Nat.le_refl _) _
      have HXw12 : Hid ((w11.alloc (.cells #[.int .u8 ((gv rd).h.kind : Nat), .bool (gv rd).h.b, .int .i64 (gv rd).h.n, .int .u64 ((gv rd).h.bits : Nat), .string (gv rd).h.text, .slice m1 (gv rd).h.keys.length n1, .slice m2 (gv rd).items.len n2] 31)).heap[w11.heap.size]? = some (.cells #[.int .u8 ((gv rd).h.kind : Nat), .bool (gv rd).h.b, .int .i64 (gv rd).h.n, .int .u64 ((gv rd).h.bits : Nat), .string (gv rd).h.text, .slice m1 (gv rd).h.keys.length n1, .slice m2 (gv rd).items.len n2] 31 (0, 0))) := heap_alloc_new w11 _
      have HZw12 : Hid ((w11.alloc (.cells #[.int .u8 ((gv rd).h.kind : Nat), .bool (gv rd).h.b, .int .i64 (gv rd).h.n, .int .u64 ((gv rd).h.bits : Nat), .string (gv rd).h.text, .slice m1 (gv rd).h.keys.length n1, .slice m2 (gv rd).items.len n2] 31)).heap.size = w11.heap.size + 1) := by unfold Hid; simp
      have HTw12 := Lib.hid (hbr.trans (HAw12.out.mono hbr.size))
      clear hbr hvr hsr G4 y0 y1 y2 y3 y4 y5 y6 z1
      go_upto_region 14 with (fail)
      generalize hWW : World.alloc w11 _ = w12 at *
      clear hWW
      have Hw12 : Hid (Below w.heap.size w w12) := HBw11.out.trans (HAw12.out.mono (by omega))
      have hz12 : w.heap.size + 3 ≤ w12.heap.size := by have := HZw12.out; omega
      have HD12 := Lib.hid ((HAw12.out.block _ (by omega)).trans HDr.out)
      have HR12 := Lib.hid ((HAw12.out.block _ (by omega)).trans HRr.out)
      have HQ12 := Lib.hid ((HAw12.out.block _ (by omega)).trans HQr.out)
      clear HDr HRr HQr
      have hG5 := GT.out w12 dot true names _ _ Hw12.out HSD.out hnl (DV.out w12 Hw12.out) (NV.out w12 Hw12.out)
      have hrd2 : getF names (if true then root else dot) = rd := HRD2.out
      rw [hrd2] at hG5
      clear hrd2
      have G5 := Lib.hid hG5
      clear hG5
      obtain ⟨x0, x1, x2, x3, x4, x5, x6⟩ := xcCs (h := dot.h) HD12.out
      obtain ⟨y0, y1, y2, y3, y4, y5, y6⟩ := xcCs (h := root.h) HR12.out
      have z1 : w12.cell? ⟨w.heap.size + 2, 1, none⟩ = some (.slice an names.length cn) := by rw [cell_of_heap' HQ12.out]; rfl
      go_wp2_with fail
      refine G5.out.mono ?_
      rintro e w13 ⟨hbr, p1, q1, p2, q2, rfl, hvr, hsr⟩
      have HBw13 : Hid (Below w.heap.size w w13) := Hw12.out.trans (hbr.mono (by omega))
      have hzw13 : w.heap.size + 3 ≤ w13.heap.size := by have := hbr.size; omega
      have HDr := Lib.hid ((hbr.block _ (by omega)).trans HD12.out)
      have HRr := Lib.hid ((hbr.block _ (by omega)).trans HR12.out)
      have HQr := Lib.hid ((hbr.block _ (by omega)).trans HQ12.out)
      have HVVE := Lib.hid hvr
      have HSVE := Lib.hid hsr
      have HAw14 : Hid (Below w13.heap.size w13 (w13.alloc (.cells #[.int .u8 ((gv rd).h.kind : Nat), .bool (gv rd).h.b, .int .i64 (gv rd).h.n, .int .u64 ((gv rd).h.bits : Nat), .string (gv rd).h.text, .slice p1 (gv rd).h.keys.length q1, .slice p2 (gv rd).items.len q2] 31))) := (Below.refl _ w13).alloc (Nat.le_refl _) _
      have HXw14 : Hid ((w13.alloc (.cells #[.int .u8 ((gv rd).h.kind : Nat), .bool (gv rd).h.b, .int .i64 (gv rd).h.n, .int .u64 ((gv rd).h.bits : Nat), .string (gv rd).h.text, .slice p1 (gv rd).h.keys.length q1, .slice p2 (gv rd).items.len q2] 31)).heap[w13.heap.size]? = some (.cells #[.int .u8 ((gv rd).h.kind : Nat), .bool (gv rd).h.b, .int .i64 (gv rd).h.n, .int .u64 ((gv rd).h.bits : Nat), .string (gv rd).h.text, .slice p1 (gv rd).h.keys.length q1, .slice p2 (gv rd).items.len q2] 31 (0, 0))) := heap_alloc_new w13 _
      have HZw14 : Hid ((w13.alloc (.cells #[.int .u8 ((gv rd).h.kind : Nat), .bool (gv rd).h.b, .int .i64 (gv rd).h.n, .int .u64 ((gv rd).h.bits : Nat), .string (gv rd).h.text, .slice p1 (gv rd).h.keys.length q1, .slice p2 (gv rd).items.len q2] 31)).heap.size = w13.heap.size + 1) := by unfold Hid; simp
      have HTw14 := Lib.hid (hbr.trans (HAw14.out.mono hbr.size))
      clear hbr hvr hsr G5 x0 x1 x2 x3 x4 x5 x6 y0 y1 y2 y3 y4 y5 y6 z1
      go_upto_region 15 with (fail)
      generalize hWW : World.alloc w13 _ = w14 at *
      clear hWW
      have Hw14 : Hid (Below w.heap.size w w14) := HBw13.out.trans (HAw14.out.mono (by omega))
      have hd12 : w11.heap.size < w12.heap.size := by have := HZw12.out; omega
      have HXD14 := Lib.hid ((HTw14.out.block _ hd12).trans HXw12.out)
      have SV : Hid (Calls Tryz.prog 14 #[.agg #[.int .u8 ((gv rd).h.kind : Nat), .bool (gv rd).h.b, .int .i64 (gv rd).h.n, .int .u64 ((gv rd).h.bits : Nat), .string (gv rd).h.text, .slice m1 (gv rd).h.keys.length n1, .slice m2 (gv rd).items.len n2], .agg #[.int .u8 ((gv rd).h.kind : Nat), .bool (gv rd).h.b, .int .i64 (gv rd).h.n, .int .u64 ((gv rd).h.bits : Nat), .string (gv rd).h.text, .slice p1 (gv rd).h.keys.length q1, .slice p2 (gv rd).items.len q2]] w14 fun e w' => e = .returned (.bool true) ∧ Below w14.heap.size w14 w') :=
        sameValue_calls (gv rd) _ _ _ _ w14 (Va.sm_wf HSVD.out) (HVVD.out.kept (fun b hb => (HTw14.out.block b (by have := hb.2.1; omega)).trans (HAw12.out.block b hb.2.1))).val (HVVE.out.kept (fun b hb => HAw14.out.block b hb.2.1)).val
      obtain ⟨x0, x1, x2, x3, x4, x5, x6⟩ := xcCs (h := (gv rd).h) HXD14.out
      obtain ⟨y0, y1, y2, y3, y4, y5, y6⟩ := xcCs (h := (gv rd).h) HXw14.out
      have hb1 : ((ge rc : Int) == (ge rc : Int)) = true := beq_self_eq_true _
      have hb2 : ((ge rd : Int) == (ge rd : Int)) = true := beq_self_eq_true _
      go_wp2_with fail
      refine SV.out.mono ?_
      rintro e w15 ⟨rfl, hb15⟩
      have HB15 : Hid (Below w.heap.size w w15) := Hw14.out.trans (hb15.mono (by have := HBw13.out.size; have := HZw14.out; omega))
      clear hb15 SV x0 x1 x2 x3 x4 x5 x6 y0 y1 y2 y3 y4 y5 y6
      go_wp2_with fail
      go_ret
      exact ⟨rfl, HB15.out⟩
end Go.Proofs.YtepcpgdfbaklfaaGreatDoor
