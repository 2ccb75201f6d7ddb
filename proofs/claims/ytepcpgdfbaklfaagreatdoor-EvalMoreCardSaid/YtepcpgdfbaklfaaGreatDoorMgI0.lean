/-
  Plain laws: what a run writes is small, and not much; its places are numbers of 64 bits. No program in sight; the condition: the template's and the value's sizes.
-/
/-
  The contracts of lacunalaw20.far, and of lacunaref00.SamePieces where both are the same. The condition: sizes that memory has room for.
-/
/-
  The walk of lacunalaw20.EvalMore. The condition: MaxLen holds some number; the tables of unicode/utf8 read as they were laid; sizes that memory has room for.
-/
import Derived.Test.YtepcpgdfbaklfaaGreatDoorMgE0
import Derived.Test.YtepcpgdfbaklfaaGreatDoorMgG9
import Derived.Test.YtepcpgdfbaklfaaGreatDoorH8M
import Derived.Test.YtepcpgdfbaklfaaGreatDoorMgTg0
import Derived.Test.YtepcpgdfbaklfaaGreatDoorMgF1
import Derived.Test.YtepcpgdfbaklfaaGreatDoorMgF0
import Derived.Test.YtepcpgdfbaklfaaGreatDoorH7M
set_option linter.unusedSimpArgs false
set_option linter.unusedVariables false
namespace Go.Proofs.YtepcpgdfbaklfaaGreatDoor
open Go.RowKit Go.Shelf Ev
def Pc.ok (p : Pc) : Prop := Va.sm p.val ∧ -9223372036854775808 ≤ p.pos ∧ p.pos ≤ 9223372036854775807
def AllO (r : Ev.Rs) : Prop := ∀ p ∈ r.out, Pc.ok p
theorem zero_sm : Va.sm zeroVa := ⟨⟨by decide, by decide, by decide, by decide, by decide, by decide, fun n hn => by cases hn⟩, trivial, by decide⟩
theorem allO_seq {a : Ev.Rs} {k : Nat → Ev.Rs} (h : AllO a) (hk : ∀ f, AllO (k f)) : AllO (a.seq k) := by
  cases ha : a.err with
  | some x => simp only [AllO, Ev.Rs.seq, ha]; exact h
  | none =>
    simp only [AllO, Ev.Rs.seq, ha]
    intro p hp
    rcases List.mem_append.1 hp with hp | hp
    · exact h p hp
    · exact hk _ p hp
theorem allO_list {one : Hd → Pt → Pt → Nat → Ev.Rs} (h : ∀ x k e f, x.wf → k.wf → e.wf → AllO (one x k e f)) : ∀ l f, l.wf → AllO (listF one l f)
  | .nil, f, _ => fun p hp => by cases hp
  | .cons x k e r, f, hw => allO_seq (h x k e f hw.1 hw.2.1 hw.2.2.1) fun f => allO_list h r f hw.2.2.2.1
theorem allO_burn {pos : Int} {f : Nat} {a : Nat → Ev.Rs} (h : ∀ g, AllO (a g)) : AllO (burnF pos f a) := by
  cases f with
  | zero => intro p hp; cases hp
  | succ f => exact h f
theorem allO_items {pos : Int} {go : Va → Nat → Ev.Rs} (h : ∀ x f, Va.sm x → AllO (go x f)) : ∀ (l : Vl) f, (∀ i x, l.get i = some x → Va.sm x) → AllO (itemsF pos go l f)
  | .nil, f, _ => fun p hp => by cases hp
  | .cons x i r, f, hl => allO_seq (allO_burn fun g => h _ g (hl 0 _ rfl)) fun f => allO_items h r f fun i x hx => hl (i + 1) x hx
theorem allO_ev {D : ByteArray → Pt} {C : Nat} (hD : ∀ n, (D n).wf) : ∀ n dot root deep h k e f, Va.sm dot → Va.sm root → h.wf → k.wf → e.wf → AllO (evF D C n dot root deep h k e f)
  | 0, dot, root, deep, h, k, e, f, _, _, _, _, _ => fun p hp => by cases hp
  | n + 1, dot, root, deep, h, k, e, f, hd, hr, hh, hk, he => by
    have IL : ∀ dot root deep l f, Va.sm dot → Va.sm root → l.wf → AllO (listF (evF D C n dot root deep) l f) := fun dot root deep l f h1 h2 h3 => allO_list (fun x k e f q1 q2 q3 => allO_ev hD n dot root deep x k e f h1 h2 q1 q2 q3) l f h3
    simp only [evF]
    refine allO_burn fun f => ?_
    split
    · intro p hp
      obtain rfl := List.mem_singleton.1 hp
      exact ⟨zero_sm, hh.2.1, hh.2.2.1⟩
    · cases hg : getF h.names (if h.root = true then root else dot) with
      | error x => intro p hp; cases hp
      | ok v =>
        have hv : Va.sm v := getF_sm _ _ _ hg (by split; exact hr; exact hd)
        dsimp only
        split
        · intro p hp
          obtain rfl := List.mem_singleton.1 hp
          exact ⟨hv, hh.2.1, hh.2.2.1⟩
        · split
          · exact IL _ _ _ _ _ hd hr (by split; exact hk; exact he)
          · split
            · split
              · split
                · exact IL _ _ _ _ _ hd hr he
                · exact allO_items (fun x f hx => IL _ _ _ _ _ hx hr hk) _ _ fun i x hx => Va.sm_get hv hx
              · intro p hp; cases hp
            · split
              · intro p hp; cases hp
              · exact IL _ _ _ _ _ hv hv (hD _)
theorem defF_wf {l : List Df} (h : ∀ d ∈ l, d.kids.wf) (n : ByteArray) : (defF l n).wf := by
  by_cases hn : defF l n = .nil
  · rw [hn]; exact trivial
  · obtain ⟨d, hd, he⟩ := defF_mem hn
    rw [← he]
    exact h d hd
theorem endF_out (r : Ev.Rs) : (endF r).1 = r.out := by unfold endF; split <;> rfl
theorem run_out {t : Tm} (hw : TmW t) {v : Va} (hv : Va.sm v) (fuel calls : Int) : (∀ p ∈ (Ev.runT t v fuel calls).1, Pc.ok p) ∧ (Ev.runT t v fuel calls).1.length ≤ 1000000 := by
  unfold Ev.runT
  split
  · exact ⟨fun p hp => (by cases hp), Nat.zero_le _⟩
  · split
    · exact ⟨fun p hp => (by cases hp), Nat.zero_le _⟩
    · rw [endF_out]
      refine ⟨allO_list (fun x k e f q1 q2 q3 => allO_ev (defF_wf fun d hd => (hw.defs d hd).2.1) _ v v 0 x k e f hv hv q1 q2 q3) _ _ hw.main.1, ?_⟩
      have h1 := cost_list (one := evF (defF t.defs) (clampF 256 calls) (clampF 1000000 fuel) v v 0) (F := clampF 1000000 fuel) (fun x k e f _ => cost_ev _ v v 0 x k e f) t.main (clampF 1000000 fuel) (Nat.le_refl _)
      have h2 := clamp_le 1000000 fuel
      show (runF _ _ _ _ _).out.length ≤ _
      unfold runF
      omega
end Go.Proofs.YtepcpgdfbaklfaaGreatDoor
set_option linter.unusedSimpArgs false
set_option linter.unusedVariables false
namespace Go.Proofs.YtepcpgdfbaklfaaGreatDoor
open Go.RowKit Go.Shelf Ev
attribute [local go_sem ↓] Go.wp_at_zero Go.wp_at_succ
def FarR (t : Tm) (v : Va) (w : World) (e : Ending) (w' : World) : Prop := ∃ b : Bool, e = .returned (.bool b) ∧ (b = false → wtT t ≤ 2048 ∧ wvF 2048 v ≤ 2048) ∧ Below w.heap.size w w'
set_option maxRecDepth 100000 in
set_option maxHeartbeats 8000000 in
theorem far_calls (t : Tm) (ht : TmW t) (v : Va) (hv : Va.wf v) (am ad a1 a2 : Option Addr) (cm cd c1 c2 : Nat) (w : World) (hp : Parts (· < w.heap.size) w (.slice am t.main.len cm) t.main) (hd : Defs (· < w.heap.size) w (.slice ad t.defs.length cd) t.defs) (hx : ValS (· < w.heap.size) w v a1 c1 a2 c2) :
    Calls Tryz.prog 9 #[.agg #[.slice am t.main.len cm, .slice ad t.defs.length cd], .agg #[.int .u8 (v.h.kind : Nat), .bool v.h.b, .int .i64 v.h.n, .int .u64 (v.h.bits : Nat), .string v.h.text, .slice a1 v.h.keys.length c1, .slice a2 v.items.len c2]] w (FarR t v w) := by
  have WT : Hid (∀ W, Below w.heap.size w W → Calls Tryz.prog 27 #[.agg #[.slice am t.main.len cm, .slice ad t.defs.length cd], .int .i64 2048] W (WgTP 2048 t W)) := fun W hW => weighTemplate_calls t 2048 (by decide) ht _ _ _ W (hp.kept (Kept.of_below hW)) (hd.kept (Kept.of_below hW))
  have WV : Hid (∀ W, Below w.heap.size w W → Calls Tryz.prog 24 #[.agg #[.int .u8 (v.h.kind : Nat), .bool v.h.b, .int .i64 v.h.n, .int .u64 (v.h.bits : Nat), .string v.h.text, .slice a1 v.h.keys.length c1, .slice a2 v.items.len c2], .int .i64 2048] W (WvP 2048 v W)) := fun W hW => weighValue_calls v 2048 (by decide) _ _ W hv (hx.kept (Kept.of_below hW)).val
  clear hp hd hx ht hv
  have HT : Hid (∀ W0, ((w.alloc (.cells #[.slice am t.main.len cm, .slice ad t.defs.length cd] 25)).alloc (.cells #[.int .u8 (v.h.kind : Nat), .bool v.h.b, .int .i64 v.h.n, .int .u64 (v.h.bits : Nat), .string v.h.text, .slice a1 v.h.keys.length c1, .slice a2 v.items.len c2] 31)) = W0 → Below w.heap.size w W0 ∧ W0.heap.size = w.heap.size + 2 ∧ W0.heap[w.heap.size]? = some (.cells #[.slice am t.main.len cm, .slice ad t.defs.length cd] 25 (0, 0)) ∧ W0.heap[w.heap.size + 1]? = some (.cells #[.int .u8 (v.h.kind : Nat), .bool v.h.b, .int .i64 v.h.n, .int .u64 (v.h.bits : Nat), .string v.h.text, .slice a1 v.h.keys.length c1, .slice a2 v.items.len c2] 31 (0, 0))) := by
    rintro W0 rfl
    have n0 := heap_alloc_new w (.cells #[.slice am t.main.len cm, .slice ad t.defs.length cd] 25)
    have n1 := heap_alloc_new (w.alloc (.cells #[.slice am t.main.len cm, .slice ad t.defs.length cd] 25)) (.cells #[.int .u8 (v.h.kind : Nat), .bool v.h.b, .int .i64 v.h.n, .int .u64 (v.h.bits : Nat), .string v.h.text, .slice a1 v.h.keys.length c1, .slice a2 v.items.len c2] 31)
    simp only [World.size_alloc] at n1
    exact ⟨((Below.refl _ w).alloc (Nat.le_refl _) _).alloc (by simp) _, by simp, (Below.heap_alloc _ _ _ (by simp)).trans n0, n1⟩
  go_enter Tryz.func9, Tryz.ntmps9
  go_upto_region 1 with (fail)
  try simp only [Nat.add_assoc, Nat.reduceAdd]
  generalize hWW : World.alloc (World.alloc w _) _ = w0 at *
  obtain ⟨hb0, hz0, ht0, hv0⟩ := HT.out w0 rfl
  clear hWW HT
  have HB0 := Lib.hid hb0
  have HV0 := Lib.hid hv0
  have t0 : w0.cell? ⟨w.heap.size, 0, none⟩ = some (.slice am t.main.len cm) := by rw [cell_of_heap' ht0]; rfl
  have t1 : w0.cell? ⟨w.heap.size, 1, none⟩ = some (.slice ad t.defs.length cd) := by rw [cell_of_heap' ht0]; rfl
  clear hb0 ht0 hv0
  go_wp2_with fail
  refine (WT.out w0 HB0.out).mono ?_
  rintro e w1 ⟨m, rfl, hm, hb1⟩
  have HB1 : Hid (Below w.heap.size w w1) := HB0.out.trans (hb1.mono (by omega))
  have hv1 := (hb1.block _ (by omega)).trans HV0.out
  have HM := Lib.hid hm
  clear hb1 t0 t1 hm
  have v0 : w1.cell? ⟨w.heap.size + 1, 0, none⟩ = some (.int .u8 (v.h.kind : Nat)) := by rw [cell_of_heap' hv1]; rfl
  have v1 : w1.cell? ⟨w.heap.size + 1, 1, none⟩ = some (.bool v.h.b) := by rw [cell_of_heap' hv1]; rfl
  have v2 : w1.cell? ⟨w.heap.size + 1, 2, none⟩ = some (.int .i64 v.h.n) := by rw [cell_of_heap' hv1]; rfl
  have v3 : w1.cell? ⟨w.heap.size + 1, 3, none⟩ = some (.int .u64 (v.h.bits : Nat)) := by rw [cell_of_heap' hv1]; rfl
  have v4 : w1.cell? ⟨w.heap.size + 1, 4, none⟩ = some (.string v.h.text) := by rw [cell_of_heap' hv1]; rfl
  have v5 : w1.cell? ⟨w.heap.size + 1, 5, none⟩ = some (.slice a1 v.h.keys.length c1) := by rw [cell_of_heap' hv1]; rfl
  have v6 : w1.cell? ⟨w.heap.size + 1, 6, none⟩ = some (.slice a2 v.items.len c2) := by rw [cell_of_heap' hv1]; rfl
  clear hv1
  by_cases h1 : m ≤ 2048
  rotate_left
  · have hgd : decide ((2048 : Int) < (m : Int)) = true := decide_eq_true (by omega)
    have hgl : (2048 : Int) < (m : Int) := by omega
    clear h1
    go_wp2_with fail
    go_ret
    exact ⟨true, rfl, fun h => (by cases h), HB1.out⟩
  have hgd : decide ((2048 : Int) < (m : Int)) = false := decide_eq_false (by omega)
  have hgl : ¬ (2048 : Int) < (m : Int) := by omega
  have H1 : Hid (wtT t ≤ 2048) := by have := HM.out h1; unfold Hid; omega
  clear h1
  go_wp2_with fail
  refine (WV.out w1 HB1.out).mono ?_
  rintro e w2 ⟨rfl, hb2⟩
  have HB2 : Hid (Below w.heap.size w w2) := HB1.out.trans (hb2.mono HB1.out.size)
  clear hb2 v0 v1 v2 v3 v4 v5 v6 hgd hgl
  by_cases h2 : wvF 2048 v ≤ 2048
  · have hgd : decide ((2048 : Int) < (wvF 2048 v : Int)) = false := decide_eq_false (by omega)
    have H2 := Lib.hid h2
    clear h2
    go_wp2_with fail
    go_ret
    exact ⟨false, rfl, fun _ => ⟨H1.out, H2.out⟩, HB2.out⟩
  · have hgd : decide ((2048 : Int) < (wvF 2048 v : Int)) = true := decide_eq_true (by omega)
    clear h2
    go_wp2_with fail
    go_ret
    exact ⟨true, rfl, fun h => (by cases h), HB2.out⟩
theorem RowP.lt {ok : Nat → Prop} {w : World} : ∀ (l : List Pc) (b o : Nat), RowP ok w l b o → RowP (fun b => ok b ∧ b < w.heap.size) w l b o := by
  intro l
  induction l with
  | nil => intro b o _; exact trivial
  | cons p r ih => rintro b o ⟨h1, h2, h3⟩; exact ⟨h1, RowX.lt _ _ _ h2, ih b _ h3⟩
def RestPc (ok : Nat → Prop) (a : Option Addr) (w : World) (r : List Pc) (k : Nat) : Prop := r ≠ [] → ∃ b o, a = some ⟨b, o, none⟩ ∧ (ok b ∧ b < w.heap.size) ∧ RowP (fun b => ok b ∧ b < w.heap.size) w r b (o + k * 10)
theorem Pcs.rest {ok : Nat → Prop} {w : World} {v : Value} {l : List Pc} (h : Pcs ok w v l) : ∃ a c, v = .slice a l.length c ∧ l.length ≤ c ∧ c ≤ maxLen ∧ RestPc ok a w l 0 := by
  obtain ⟨a, c, rfl, h1, h2, h3⟩ := h
  refine ⟨a, c, rfl, h1, h2, fun hne => ?_⟩
  obtain ⟨b, o, q1, q2, q3⟩ := h3 hne
  refine ⟨b, o, q1, ⟨q2, ?_⟩, by rw [Nat.zero_mul, Nat.add_zero]; exact RowP.lt _ _ _ q3⟩
  cases l with
  | nil => exact absurd rfl hne
  | cons p r => exact lt_of_cell q3.1.1
set_option maxRecDepth 100000 in
set_option maxHeartbeats 8000000 in
theorem samePieces_calls (l : List Pc) (hw : ∀ p ∈ l, Va.wf p.val) (hl : l.length ≤ 140737488351232) (ok ok' : Nat → Prop) (v v' : Value) (w : World) (h : Pcs ok w v l) (h' : Pcs ok' w v' l) :
    Calls Tryz.prog 17 #[v, v'] w fun e w' => e = .returned (.bool true) ∧ Below w.heap.size w w' := by
  obtain ⟨a, c, rfl, -, -, h3⟩ := Pcs.rest h
  obtain ⟨a', c', rfl, -, -, h3'⟩ := Pcs.rest h'
  have HX := Lib.hid h3
  have HY := Lib.hid h3'
  have HW := Lib.hid hw
  clear h3 h3' h h' hw
  go_enter Tryz.func17, Tryz.ntmps17
  go_wp2_with fail
  go_loopw [5] (fun i wr => ∃ (k : Nat) (r : List Pc), i = .int .i64 (k : Nat) ∧ k + r.length = l.length ∧ Hid (Below w.heap.size w wr) ∧ Hid (RestPc ok a w r k) ∧ Hid (RestPc ok' a' w r k) ∧ Hid (∀ p ∈ r, p ∈ l)) (fun i _ => l.length - (intOf i).toNat)
  case atStart => exact ⟨0, l, rfl, by omega, Below.refl _ _, HX, HY, fun _ h => h⟩
  case round =>
    obtain ⟨k, r, rfl, hk, HB, HRX, HRY, HF⟩ := hrel
    cases r with
    | nil =>
      simp only [List.length_nil] at hk
      have hge : ¬ (k : Int) < (l.length : Int) := by omega
      go_wp2_with fail
      go_ret
      exact ⟨rfl, HB.out⟩
    | cons p r =>
      simp only [List.length_cons] at hk
      have hlt' : (k : Int) < (l.length : Int) := by omega
      have hk0 : (0 : Int) ≤ (k : Int) := by omega
      obtain ⟨b, o, rfl, hb, hrow⟩ := HRX.out (by simp)
      obtain ⟨b', o', rfl, hb', hrow'⟩ := HRY.out (by simp)
      have HRS : Hid (RestPc ok (some ⟨b, o, none⟩) w r (k + 1)) := fun _ => ⟨b, o, rfl, hb, by have := hrow.2.2; rwa [show o + k * 10 + 10 = o + (k + 1) * 10 by omega] at this⟩
      have HSS : Hid (RestPc ok' (some ⟨b', o', none⟩) w r (k + 1)) := fun _ => ⟨b', o', rfl, hb', by have := hrow'.2.2; rwa [show o' + k * 10 + 10 = o' + (k + 1) * 10 by omega] at this⟩
      have HFR : Hid (∀ p ∈ r, p ∈ l) := fun q hq => HF.out q (List.mem_cons_of_mem _ hq)
      have hwp := HW.out p (HF.out p (List.mem_cons_self ..))
      obtain ⟨⟨g0, g1, g2⟩, ⟨⟨c0, c1, c2, c3, c4, v5, c5, hs5⟩, ⟨ag, cg, c6, k1, k2, k3⟩, -⟩, -⟩ := RowP.kept (fun b hb => HB.out.block b hb.2) _ _ _ hb hrow
      obtain ⟨⟨f0, f1, f2⟩, ⟨⟨d0, d1, d2, d3, d4, v5', d5, hs5'⟩, ⟨ag', cg', d6, k1', k2', k3'⟩, -⟩, -⟩ := RowP.kept (fun b hb => HB.out.block b hb.2) _ _ _ hb' hrow'
      have HM1 : Hid (ValM (fun b => ok b ∧ b < w.heap.size) wr (.agg #[.int .u8 (p.val.h.kind : Nat), .bool p.val.h.b, .int .i64 p.val.h.n, .int .u64 (p.val.h.bits : Nat), .string p.val.h.text, v5, .slice ag p.val.items.len cg]) p.val) := ⟨_, _, rfl, hs5, ag, cg, rfl, k1, k2, k3⟩
      have HM2 : Hid (ValM (fun b => ok' b ∧ b < w.heap.size) wr (.agg #[.int .u8 (p.val.h.kind : Nat), .bool p.val.h.b, .int .i64 p.val.h.n, .int .u64 (p.val.h.bits : Nat), .string p.val.h.text, v5', .slice ag' p.val.items.len cg']) p.val) := ⟨_, _, rfl, hs5', ag', cg', rfl, k1', k2', k3'⟩
      have hsw := HB.out.size
      have KC : Hid (∀ W, Below wr.heap.size wr W → Calls Tryz.prog 14 #[.agg #[.int .u8 (p.val.h.kind : Nat), .bool p.val.h.b, .int .i64 p.val.h.n, .int .u64 (p.val.h.bits : Nat), .string p.val.h.text, v5, .slice ag p.val.items.len cg], .agg #[.int .u8 (p.val.h.kind : Nat), .bool p.val.h.b, .int .i64 p.val.h.n, .int .u64 (p.val.h.bits : Nat), .string p.val.h.text, v5', .slice ag' p.val.items.len cg']] W fun e w' => e = .returned (.bool true) ∧ Below W.heap.size W w') := fun W hW =>
        sameValue_calls p.val (fun b => ok b ∧ b < w.heap.size) (fun b => ok' b ∧ b < w.heap.size) _ _ W hwp (HM1.out.kept (fun b hb => hW.block b (by have := hb.2; omega))) (HM2.out.kept (fun b hb => hW.block b (by have := hb.2; omega)))
      have HG : Hid (∀ W, Below wr.heap.size wr W → (W.cell? ⟨b, o + k * 10, none⟩ = some (.int .i64 p.pos) ∧ W.cell? ⟨b, o + k * 10 + 1, none⟩ = some (.bool p.hole) ∧ W.cell? ⟨b, o + k * 10 + 2, none⟩ = some (.string p.text)) ∧ W.cell? ⟨b', o' + k * 10, none⟩ = some (.int .i64 p.pos) ∧ W.cell? ⟨b', o' + k * 10 + 1, none⟩ = some (.bool p.hole) ∧ W.cell? ⟨b', o' + k * 10 + 2, none⟩ = some (.string p.text)) := fun W hW =>
        have q : b < wr.heap.size := by have := hb.2; omega
        have q' : b' < wr.heap.size := by have := hb'.2; omega
        ⟨⟨(hW.cell (p := ⟨b, _, none⟩) q).trans g0, (hW.cell (p := ⟨b, _, none⟩) q).trans g1, (hW.cell (p := ⟨b, _, none⟩) q).trans g2⟩, (hW.cell (p := ⟨b', _, none⟩) q').trans f0, (hW.cell (p := ⟨b', _, none⟩) q').trans f1, (hW.cell (p := ⟨b', _, none⟩) q').trans f2⟩
      obtain ⟨av5, cv5, rfl, -⟩ := hs5
      obtain ⟨av5', cv5', rfl, -⟩ := hs5'
      have HKI := Lib.hid hk
      clear k3 k3' hrow hrow' hwp hk HM1 HM2 g0 g1 g2 f0 f1 f2
      go_upto_region 6 with (fail)
      go_still_tail 10, (by kernel_rfl)
      change wpList _ _ _ _ _ wr.drew
      have HBd : Hid (Below wr.heap.size wr wr.drew) := ⟨rfl, rfl, rfl, Nat.le_refl _, fun _ _ => rfl⟩
      clear c0 c1 c2 c3 c4 c5 c6 d0 d1 d2 d3 d4 d5 d6
      generalize wr.drew = w2 at *
      go_wp2_with fail
      refine (KC.out _ HBd.out).mono ?_
      rintro e w3 ⟨rfl, hb3⟩
      have HBX : Hid (Below wr.heap.size wr w3) := HBd.out.trans (hb3.mono HBd.out.size)
      have HB3 : Hid (Below w.heap.size w w3) := HB.out.trans (HBX.out.mono hsw)
      obtain ⟨⟨g0, g1, g2⟩, f0, f1, f2⟩ := HG.out _ HBX.out
      clear hb3 KC
      go_wp2_with fail
      go_quiet (fail)
      go_wp2_with fail
      go_roundw
      case rel => exact ⟨k + 1, r, by go_num, by have := HKI.out; omega, below_drewN HB3.out _, HRS, HSS, HFR⟩
      case measure => simp [intOf]; have := HKI.out; omega
end Go.Proofs.YtepcpgdfbaklfaaGreatDoor
set_option linter.unusedSimpArgs false
set_option linter.unusedVariables false
namespace Go.Proofs.YtepcpgdfbaklfaaGreatDoor
open Go.RowKit Go.Shelf Ev
attribute [local go_sem ↓] Go.wp_at_zero Go.wp_at_succ
theorem run_slice_toP (a : Option Addr) (n c k : Nat) (hk : k ≤ c) (w : World) : (Instr.slice 36 (.slice a n c) none (some (.int .i64 (k : Nat))) none).run Tryz.prog w = .ok (.slice a k c) w := by
  have h1 : (0 : Int) ≤ (k : Int) := by omega
  have h2 : (k : Int) ≤ (c : Int) := by omega
  have hs : (sizeOf 44).run Tryz.prog w = .ok 10 w := by kernel_rfl
  have hb : (Instr.sliceBound (.int .i64 (k : Nat)) c .sliceAcap).run Tryz.prog w = .ok k w := by simp [Instr.sliceBound, asIntOf, h1, h2, go_sem]
  have ha : (a.map fun x => x.add 0) = a := by cases a <;> rfl
  simp [Instr.slice, run_underlying Tryz.underlying36, Instr.sliceBounds, hb, hs, Result.andThen, go_sem, ha]
theorem RowP.take {ok : Nat → Prop} {w : World} : ∀ (l r : List Pc) (b o : Nat), RowP ok w (l ++ r) b o → RowP ok w l b o := by
  intro l
  induction l with
  | nil => intro r b o _; exact trivial
  | cons p l ih => rintro r b o ⟨h1, h2, h3⟩; exact ⟨h1, h2, ih r b _ h3⟩
theorem hpa_kept {w w3 w4 : World} {v : Value} {l : List Pc} (h : Pcs (Nu w.heap.size w3) w3 v l) (hb : Below w3.heap.size w3 w4) : Pcs (· < w4.heap.size) w4 v l :=
  (h.kept (fun b hb' => hb.block b hb'.2.1)).mono fun b hb' => Nat.lt_of_lt_of_le hb'.2.1 hb.size
theorem pcs_prefix {ok : Nat → Prop} {w : World} {a : Option Addr} {l m : List Pc} {c n : Nat} (h : Pcs ok w (.slice a n c) m) (hp : l <+: m) : Pcs ok w (.slice a l.length c) l := by
  obtain ⟨r, rfl⟩ := hp
  obtain ⟨a', c', he, h1, h2, h3⟩ := h
  cases he
  rw [List.length_append] at h1
  refine ⟨a, c, rfl, by omega, h2, fun hn => ?_⟩
  obtain ⟨b, o, q1, q2, q3⟩ := h3 (fun e => hn (List.append_eq_nil_iff.1 e).1)
  exact ⟨b, o, q1, q2, RowP.take _ _ _ _ q3⟩
set_option maxRecDepth 100000 in
set_option maxHeartbeats 40000000 in
theorem evalMore_walk (t : Tm) (ht : TmW t) (v : Va) (hv : Va.wf v) (am ad a1 a2 : Option Addr) (cm cd c1 c2 : Nat) (w : World) (hg : Gd w) (hp : Parts (· < w.heap.size) w (.slice am t.main.len cm) t.main) (hd : Defs (· < w.heap.size) w (.slice ad t.defs.length cd) t.defs) (hx : ValS (· < w.heap.size) w v a1 c1 a2 c2) (fuel calls more deeper : Int) :
    Calls Tryz.prog 5 #[.agg #[.slice am t.main.len cm, .slice ad t.defs.length cd], .agg #[.int .u8 (v.h.kind : Nat), .bool v.h.b, .int .i64 v.h.n, .int .u64 (v.h.bits : Nat), .string v.h.text, .slice a1 v.h.keys.length c1, .slice a2 v.items.len c2], .int .i64 fuel, .int .i64 calls, .int .i64 more, .int .i64 deeper] w fun e w' => e = .returned (.bool true) ∧ Below w.heap.size w w' := by
  have WC : Hid (∀ W, Below w.heap.size w W → Calls Tryz.prog 8 #[] W fun e w' => e = .returned (.bool true) ∧ Below W.heap.size W w') := fun W hW => works_calls W (hg.belowB hg.glB hW)
  have FC : Hid (∀ W, Below w.heap.size w W → Calls Tryz.prog 9 #[.agg #[.slice am t.main.len cm, .slice ad t.defs.length cd], .agg #[.int .u8 (v.h.kind : Nat), .bool v.h.b, .int .i64 v.h.n, .int .u64 (v.h.bits : Nat), .string v.h.text, .slice a1 v.h.keys.length c1, .slice a2 v.items.len c2]] W (FarR t v W)) := fun W hW => far_calls t ht v hv am ad a1 a2 cm cd c1 c2 W ((hp.kept (Kept.of_below hW)).mono (fun b hb => Nat.lt_of_lt_of_le hb hW.size)) ((hd.kept (Kept.of_below hW)).mono (fun b hb => Nat.lt_of_lt_of_le hb hW.size)) ((hx.kept (Kept.of_below hW)).mono (fun b hb => Nat.lt_of_lt_of_le hb hW.size))
  have RC : Hid (∀ (hz : TmZ t) (hs : Va.sm v) W (fuel calls : Int), Below w.heap.size w W → Calls Tryz.prog 12 #[.agg #[.slice am t.main.len cm, .slice ad t.defs.length cd], .agg #[.int .u8 (v.h.kind : Nat), .bool v.h.b, .int .i64 v.h.n, .int .u64 (v.h.bits : Nat), .string v.h.text, .slice a1 v.h.keys.length c1, .slice a2 v.items.len c2], .int .i64 fuel, .int .i64 calls] W (RunR (Ev.runT t v fuel calls) W)) := fun hz hs W fuel calls hW => run_calls t hz v hs fuel calls am ad a1 a2 cm cd c1 c2 W (hg.belowB hg.glB hW) ((hp.kept (Kept.of_below hW)).mono (fun b hb => Nat.lt_of_lt_of_le hb hW.size)) ((hd.kept (Kept.of_below hW)).mono (fun b hb => Nat.lt_of_lt_of_le hb hW.size)) ((hx.kept (Kept.of_below hW)).mono (fun b hb => Nat.lt_of_lt_of_le hb hW.size))
  have HTW := Lib.hid ht
  have HVW := Lib.hid hv
  clear hp hd hx ht hv hg
  have HT : Hid (∀ W0, ((w.alloc (.cells #[.slice am t.main.len cm, .slice ad t.defs.length cd] 25)).alloc (.cells #[.int .u8 (v.h.kind : Nat), .bool v.h.b, .int .i64 v.h.n, .int .u64 (v.h.bits : Nat), .string v.h.text, .slice a1 v.h.keys.length c1, .slice a2 v.items.len c2] 31)) = W0 → Below w.heap.size w W0 ∧ W0.heap.size = w.heap.size + 2 ∧ W0.heap[w.heap.size]? = some (.cells #[.slice am t.main.len cm, .slice ad t.defs.length cd] 25 (0, 0)) ∧ W0.heap[w.heap.size + 1]? = some (.cells #[.int .u8 (v.h.kind : Nat), .bool v.h.b, .int .i64 v.h.n, .int .u64 (v.h.bits : Nat), .string v.h.text, .slice a1 v.h.keys.length c1, .slice a2 v.items.len c2] 31 (0, 0))) := by
    rintro W0 rfl
    have n0 := heap_alloc_new w (.cells #[.slice am t.main.len cm, .slice ad t.defs.length cd] 25)
    have n1 := heap_alloc_new (w.alloc (.cells #[.slice am t.main.len cm, .slice ad t.defs.length cd] 25)) (.cells #[.int .u8 (v.h.kind : Nat), .bool v.h.b, .int .i64 v.h.n, .int .u64 (v.h.bits : Nat), .string v.h.text, .slice a1 v.h.keys.length c1, .slice a2 v.items.len c2] 31)
    simp only [World.size_alloc] at n1
    exact ⟨((Below.refl _ w).alloc (Nat.le_refl _) _).alloc (by simp) _, by simp, (Below.heap_alloc _ _ _ (by simp)).trans n0, n1⟩
  go_enter Tryz.func5, Tryz.ntmps5
  go_upto_region 1 with (fail)
  try simp only [Nat.add_assoc, Nat.reduceAdd]
  generalize hWW : World.alloc (World.alloc w _) _ = w0 at *
  obtain ⟨hb0, hz0, ht0, hv0⟩ := HT.out w0 rfl
  clear hWW HT
  have HB0 := Lib.hid hb0
  have HT0 := Lib.hid ht0
  have HV0 := Lib.hid hv0
  clear hb0 ht0 hv0
  go_wp2_with fail
  refine (WC.out w0 HB0.out).mono ?_
  rintro e w1 ⟨rfl, hb1⟩
  have HB1 : Hid (Below w.heap.size w w1) := HB0.out.trans (hb1.mono (by omega))
  have hz1 : w.heap.size + 2 ≤ w1.heap.size := by have := hb1.size; omega
  have HT1 := Lib.hid ((hb1.block _ (by omega)).trans HT0.out)
  have HV1 := Lib.hid ((hb1.block _ (by omega)).trans HV0.out)
  clear hb1 hz0
  have t0 : w1.cell? ⟨w.heap.size, 0, none⟩ = some (.slice am t.main.len cm) := by rw [cell_of_heap' HT1.out]; rfl
  have t1 : w1.cell? ⟨w.heap.size, 1, none⟩ = some (.slice ad t.defs.length cd) := by rw [cell_of_heap' HT1.out]; rfl
  have v0 : w1.cell? ⟨w.heap.size + 1, 0, none⟩ = some (.int .u8 (v.h.kind : Nat)) := by rw [cell_of_heap' HV1.out]; rfl
  have v1 : w1.cell? ⟨w.heap.size + 1, 1, none⟩ = some (.bool v.h.b) := by rw [cell_of_heap' HV1.out]; rfl
  have v2 : w1.cell? ⟨w.heap.size + 1, 2, none⟩ = some (.int .i64 v.h.n) := by rw [cell_of_heap' HV1.out]; rfl
  have v3 : w1.cell? ⟨w.heap.size + 1, 3, none⟩ = some (.int .u64 (v.h.bits : Nat)) := by rw [cell_of_heap' HV1.out]; rfl
  have v4 : w1.cell? ⟨w.heap.size + 1, 4, none⟩ = some (.string v.h.text) := by rw [cell_of_heap' HV1.out]; rfl
  have v5 : w1.cell? ⟨w.heap.size + 1, 5, none⟩ = some (.slice a1 v.h.keys.length c1) := by rw [cell_of_heap' HV1.out]; rfl
  have v6 : w1.cell? ⟨w.heap.size + 1, 6, none⟩ = some (.slice a2 v.items.len c2) := by rw [cell_of_heap' HV1.out]; rfl
  go_wp2_with fail
  refine (FC.out w1 HB1.out).mono ?_
  rintro e w2 ⟨fb, rfl, hfb, hb2⟩
  have HFB := Lib.hid hfb
  clear hfb
  have HB2 : Hid (Below w.heap.size w w2) := HB1.out.trans (hb2.mono (by omega))
  have hz2 : w.heap.size + 2 ≤ w2.heap.size := by have := hb2.size; omega
  have HT2 := Lib.hid ((hb2.block _ (by omega)).trans HT1.out)
  have HV2 := Lib.hid ((hb2.block _ (by omega)).trans HV1.out)
  clear hb2 hz1 t0 t1 v0 v1 v2 v3 v4 v5 v6
  cases fb with
  | true =>
    go_wp2_with fail
    go_ret
    exact ⟨rfl, HB2.out⟩
  | false =>
  have hsz := HFB.out rfl
  have HSV := Lib.hid (Va.wf_sm HVW.out hsz.2)
  have HTZ := Lib.hid (tmZ_of t HTW.out (by omega))
  clear hsz HFB
  by_cases hgc : fuel < 0
  · have hgd : decide (fuel < 0) = true := decide_eq_true hgc
    go_wp2_with fail
    go_ret
    exact ⟨rfl, HB2.out⟩
  have hgd0 : decide (fuel < 0) = false := decide_eq_false hgc
  replace hgc := Lib.hid hgc
  have HGC0 := hgc
  clear hgc
  by_cases hgc : (5000 : Int) < fuel
  · have hgd : decide ((5000 : Int) < fuel) = true := decide_eq_true hgc
    go_wp2_with fail
    go_ret
    exact ⟨rfl, HB2.out⟩
  have hgd1 : decide ((5000 : Int) < fuel) = false := decide_eq_false hgc
  replace hgc := Lib.hid hgc
  have HGC1 := hgc
  clear hgc
  by_cases hgc : more < 0
  · have hgd : decide (more < 0) = true := decide_eq_true hgc
    go_wp2_with fail
    go_ret
    exact ⟨rfl, HB2.out⟩
  have hgd2 : decide (more < 0) = false := decide_eq_false hgc
  replace hgc := Lib.hid hgc
  have HGC2 := hgc
  clear hgc
  by_cases hgc : (5000 : Int) < more
  · have hgd : decide ((5000 : Int) < more) = true := decide_eq_true hgc
    go_wp2_with fail
    go_ret
    exact ⟨rfl, HB2.out⟩
  have hgd3 : decide ((5000 : Int) < more) = false := decide_eq_false hgc
  replace hgc := Lib.hid hgc
  have HGC3 := hgc
  clear hgc
  by_cases hgc : calls < 0
  · have hgd : decide (calls < 0) = true := decide_eq_true hgc
    go_wp2_with fail
    go_ret
    exact ⟨rfl, HB2.out⟩
  have hgd4 : decide (calls < 0) = false := decide_eq_false hgc
  replace hgc := Lib.hid hgc
  have HGC4 := hgc
  clear hgc
  by_cases hgc : (256 : Int) < calls
  · have hgd : decide ((256 : Int) < calls) = true := decide_eq_true hgc
    go_wp2_with fail
    go_ret
    exact ⟨rfl, HB2.out⟩
  have hgd5 : decide ((256 : Int) < calls) = false := decide_eq_false hgc
  replace hgc := Lib.hid hgc
  have HGC5 := hgc
  clear hgc
  by_cases hgc : deeper < 0
  · have hgd : decide (deeper < 0) = true := decide_eq_true hgc
    go_wp2_with fail
    go_ret
    exact ⟨rfl, HB2.out⟩
  have hgd6 : decide (deeper < 0) = false := decide_eq_false hgc
  replace hgc := Lib.hid hgc
  have HGC6 := hgc
  clear hgc
  by_cases hgc : (256 : Int) < deeper
  · have hgd : decide ((256 : Int) < deeper) = true := decide_eq_true hgc
    go_wp2_with fail
    go_ret
    exact ⟨rfl, HB2.out⟩
  have hgd7 : decide ((256 : Int) < deeper) = false := decide_eq_false hgc
  replace hgc := Lib.hid hgc
  have HGC7 := hgc
  clear hgc
  have hf1 : 0 ≤ fuel := by have := HGC0.out; omega
  have hf2 : fuel ≤ 5000 := by have := HGC1.out; omega
  have hm1 : 0 ≤ more := by have := HGC2.out; omega
  have hm2 : more ≤ 5000 := by have := HGC3.out; omega
  have hc1 : 0 ≤ calls := by have := HGC4.out; omega
  have hc2 : calls ≤ 256 := by have := HGC5.out; omega
  have hd1 : 0 ≤ deeper := by have := HGC6.out; omega
  have hd2 : deeper ≤ 256 := by have := HGC7.out; omega
  clear HGC0 HGC1 HGC2 HGC3 HGC4 HGC5 HGC6 HGC7
  have HM := Lib.hid (run_more_t t v fuel calls more deeper hf1 hf2 hm1 hm2 hd1)
  have HOA := Lib.hid (run_out HTW.out HSV.out fuel calls)
  obtain ⟨⟨la, ea, pa⟩, hra⟩ : ∃ r, Ev.runT t v fuel calls = r := ⟨_, rfl⟩
  obtain ⟨⟨lb, eb, pb⟩, hrb⟩ : ∃ r, Ev.runT t v (fuel + more) (calls + deeper) = r := ⟨_, rfl⟩
  have t0 : w2.cell? ⟨w.heap.size, 0, none⟩ = some (.slice am t.main.len cm) := by rw [cell_of_heap' HT2.out]; rfl
  have t1 : w2.cell? ⟨w.heap.size, 1, none⟩ = some (.slice ad t.defs.length cd) := by rw [cell_of_heap' HT2.out]; rfl
  have v0 : w2.cell? ⟨w.heap.size + 1, 0, none⟩ = some (.int .u8 (v.h.kind : Nat)) := by rw [cell_of_heap' HV2.out]; rfl
  have v1 : w2.cell? ⟨w.heap.size + 1, 1, none⟩ = some (.bool v.h.b) := by rw [cell_of_heap' HV2.out]; rfl
  have v2 : w2.cell? ⟨w.heap.size + 1, 2, none⟩ = some (.int .i64 v.h.n) := by rw [cell_of_heap' HV2.out]; rfl
  have v3 : w2.cell? ⟨w.heap.size + 1, 3, none⟩ = some (.int .u64 (v.h.bits : Nat)) := by rw [cell_of_heap' HV2.out]; rfl
  have v4 : w2.cell? ⟨w.heap.size + 1, 4, none⟩ = some (.string v.h.text) := by rw [cell_of_heap' HV2.out]; rfl
  have v5 : w2.cell? ⟨w.heap.size + 1, 5, none⟩ = some (.slice a1 v.h.keys.length c1) := by rw [cell_of_heap' HV2.out]; rfl
  have v6 : w2.cell? ⟨w.heap.size + 1, 6, none⟩ = some (.slice a2 v.items.len c2) := by rw [cell_of_heap' HV2.out]; rfl
  go_upto_region 7 with (fail)
  clear hgd0 hgd1 hgd2 hgd3 hgd4 hgd5 hgd6 hgd7
  have R1 := Lib.hid (RC.out HTZ.out HSV.out w2 fuel calls HB2.out)
  go_wp2_with fail
  refine R1.out.mono ?_
  rw [hra]
  rintro e w3 ⟨hb3, aa, ca, rfl, hpa⟩
  have HPA := Lib.hid hpa
  clear hpa R1
  have HB3 : Hid (Below w.heap.size w w3) := HB2.out.trans (hb3.mono (by omega))
  have hz3 : w.heap.size + 2 ≤ w3.heap.size := by have := hb3.size; omega
  have HT3 := Lib.hid ((hb3.block _ (by omega)).trans HT2.out)
  have HV3 := Lib.hid ((hb3.block _ (by omega)).trans HV2.out)
  clear hb3 hz2 t0 t1 v0 v1 v2 v3 v4 v5 v6
  have t0 : w3.cell? ⟨w.heap.size, 0, none⟩ = some (.slice am t.main.len cm) := by rw [cell_of_heap' HT3.out]; rfl
  have t1 : w3.cell? ⟨w.heap.size, 1, none⟩ = some (.slice ad t.defs.length cd) := by rw [cell_of_heap' HT3.out]; rfl
  have v0 : w3.cell? ⟨w.heap.size + 1, 0, none⟩ = some (.int .u8 (v.h.kind : Nat)) := by rw [cell_of_heap' HV3.out]; rfl
  have v1 : w3.cell? ⟨w.heap.size + 1, 1, none⟩ = some (.bool v.h.b) := by rw [cell_of_heap' HV3.out]; rfl
  have v2 : w3.cell? ⟨w.heap.size + 1, 2, none⟩ = some (.int .i64 v.h.n) := by rw [cell_of_heap' HV3.out]; rfl
  have v3 : w3.cell? ⟨w.heap.size + 1, 3, none⟩ = some (.int .u64 (v.h.bits : Nat)) := by rw [cell_of_heap' HV3.out]; rfl
  have v4 : w3.cell? ⟨w.heap.size + 1, 4, none⟩ = some (.string v.h.text) := by rw [cell_of_heap' HV3.out]; rfl
  have v5 : w3.cell? ⟨w.heap.size + 1, 5, none⟩ = some (.slice a1 v.h.keys.length c1) := by rw [cell_of_heap' HV3.out]; rfl
  have v6 : w3.cell? ⟨w.heap.size + 1, 6, none⟩ = some (.slice a2 v.items.len c2) := by rw [cell_of_heap' HV3.out]; rfl
  have R2 := Lib.hid (RC.out HTZ.out HSV.out w3 (fuel + more) (calls + deeper) HB3.out)
  go_wp2_with fail
  refine R2.out.mono ?_
  rw [hrb]
  rintro e w4 ⟨hb4, ab, cb, rfl, hpb⟩
  have HPB := Lib.hid hpb
  have HP4 := Lib.hid (hpa_kept HPA.out hb4)
  clear hpb R2 HPA
  have HB4 : Hid (Below w.heap.size w w4) := HB3.out.trans (hb4.mono (by omega))
  have hz4 : w.heap.size + 2 ≤ w4.heap.size := by have := hb4.size; omega
  have HT4 := Lib.hid ((hb4.block _ (by omega)).trans HT3.out)
  have HV4 := Lib.hid ((hb4.block _ (by omega)).trans HV3.out)
  clear hb4 hz3 t0 t1 v0 v1 v2 v3 v4 v5 v6
  rw [hra, hrb] at HM
  rw [hra] at HOA
  dsimp only at HM HOA HPB HP4
  have hpre : la <+: lb := HM.out.1
  have hlen := hpre.length_le
  have hcb : lb.length ≤ cb := by obtain ⟨_, _, he, h1, -⟩ := HPB.out; cases he; exact h1
  have SC := Lib.hid (fun W (hW : Below w4.heap.size w4 W) => samePieces_calls la (fun p hp => Va.sm_wf (HOA.out.1 p hp).1) (by have := HOA.out.2; omega) _ _ (.slice aa la.length ca) (.slice ab la.length cb) W (HP4.out.kept (fun b hb => hW.block b hb)) (pcs_prefix (HPB.out.kept (fun b hb => hW.block b hb.2.1)) hpre))
  have hng : ¬ (lb.length : Int) < (la.length : Int) := by omega
  have hgd : decide ((lb.length : Int) < (la.length : Int)) = false := decide_eq_false hng
  have hsl := run_slice_toP ab lb.length cb la.length (by omega)
  clear hra hrb
  dsimp only
  go_wp2_with fail
  refine (SC.out w4 (Below.refl _ _)).mono ?_
  rintro e w5 ⟨rfl, hb5⟩
  have HB5 : Hid (Below w.heap.size w w5) := HB4.out.trans (hb5.mono (by omega))
  clear hb5 SC hsl hgd hng
  by_cases h202 : ea = 202
  · subst h202
    go_wp2_with fail
    go_ret
    exact ⟨rfl, HB5.out⟩
  by_cases h203 : ea = 203
  · subst h203
    go_wp2_with fail
    go_ret
    exact ⟨rfl, HB5.out⟩
  have heq := HM.out.2 h202 h203
  cases heq
  have h1 : ((ea : Int) == 202) = false := beq_eq_false_iff_ne.2 (by omega)
  have h2 : ((ea : Int) == 203) = false := beq_eq_false_iff_ne.2 (by omega)
  clear h202 h203 HM
  go_wp2_with fail
  go_ret
  exact ⟨rfl, HB5.out⟩
end Go.Proofs.YtepcpgdfbaklfaaGreatDoor
