/- What EvalTwice stands on: its walk and the contracts of its helpers. The condition: sizes that memory has room for. -/
import Derived.Test.YtepcpgdfbaklfaaGreatDoorMcE0
import Derived.Test.YtepcpgdfbaklfaaGreatDoorMcG9
import Derived.Test.YtepcpgdfbaklfaaGreatDoorH8C
import Derived.Test.YtepcpgdfbaklfaaGreatDoorMcTg0
import Derived.Test.YtepcpgdfbaklfaaGreatDoorMcF1
import Derived.Test.YtepcpgdfbaklfaaGreatDoorMcF0
import Derived.Test.YtepcpgdfbaklfaaGreatDoorMcH1
import Derived.Test.YtepcpgdfbaklfaaGreatDoorTc0C
import Derived.Test.YtepcpgdfbaklfaaGreatDoorMcTs0
import Derived.Test.YtepcpgdfbaklfaaGreatDoorMcH4
set_option linter.unusedSimpArgs false
set_option linter.unusedVariables false
namespace Go.Proofs.YtepcpgdfbaklfaaGreatDoor
open Go.RowKit Go.Shelf Ev
def Pc.ok (p : Pc) : Prop := Va.sm p.val ∧ -9223372036854775808 ≤ p.pos ∧ p.pos ≤ 9223372036854775807
def AllO (r : Ev.Rs) : Prop := ∀ p ∈ r.out, Pc.ok p
theorem zero_sm : Va.sm zeroVa := ⟨⟨by decide, by decide, by decide, by decide, by decide, by decide, fun n hn => by cases hn⟩, trivial, by decide⟩
theorem allO_seq {a : Ev.Rs} {k : Nat → Ev.Rs} (h : AllO a) (hk : ∀ f, AllO (k f)) : AllO (a.seq k) := by
 cases ha : a.err with
 | some x => simp only [AllO, Ev.Rs.seq, ha]; exact h
 | none =>
   simp only [AllO, Ev.Rs.seq, ha]
   intro p hp
   rcases List.mem_append.1 hp with hp | hp
   · exact h p hp
   · exact hk _ p hp
theorem allO_list {one : Hd → Pt → Pt → Nat → Ev.Rs} (h : ∀ x k e f, x.wf → k.wf → e.wf → AllO (one x k e f)) : ∀ l f, l.wf → AllO (listF one l f)
 | .nil, f, _ => fun p hp => by cases hp
 | .cons x k e r, f, hw => allO_seq (h x k e f hw.1 hw.2.1 hw.2.2.1) fun f => allO_list h r f hw.2.2.2.1
theorem allO_burn {pos : Int} {f : Nat} {a : Nat → Ev.Rs} (h : ∀ g, AllO (a g)) : AllO (burnF pos f a) := by
 cases f with
 | zero => intro p hp; cases hp
 | succ f => exact h f
theorem allO_items {pos : Int} {go : Va → Nat → Ev.Rs} (h : ∀ x f, Va.sm x → AllO (go x f)) : ∀ (l : Vl) f, (∀ i x, l.get i = some x → Va.sm x) → AllO (itemsF pos go l f)
 | .nil, f, _ => fun p hp => by cases hp
 | .cons x i r, f, hl => allO_seq (allO_burn fun g => h _ g (hl 0 _ rfl)) fun f => allO_items h r f fun i x hx => hl (i + 1) x hx
theorem allO_ev {D : ByteArray → Pt} {C : Nat} (hD : ∀ n, (D n).wf) : ∀ n dot root deep h k e f, Va.sm dot → Va.sm root → h.wf → k.wf → e.wf → AllO (evF D C n dot root deep h k e f)
 | 0, dot, root, deep, h, k, e, f, _, _, _, _, _ => fun p hp => by cases hp
 | n + 1, dot, root, deep, h, k, e, f, hd, hr, hh, hk, he => by
   have IL : ∀ dot root deep l f, Va.sm dot → Va.sm root → l.wf → AllO (listF (evF D C n dot root deep) l f) := fun dot root deep l f h1 h2 h3 => allO_list (fun x k e f q1 q2 q3 => allO_ev hD n dot root deep x k e f h1 h2 q1 q2 q3) l f h3
   simp only [evF]
   refine allO_burn fun f => ?_
   split
   · intro p hp
     obtain rfl := List.mem_singleton.1 hp
     exact ⟨zero_sm, hh.2.1, hh.2.2.1⟩
   · cases hg : getF h.names (if h.root = true then root else dot) with
     | error x => intro p hp; cases hp
     | ok v =>
       have hv : Va.sm v := getF_sm _ _ _ hg (by split; exact hr; exact hd)
       dsimp only
       split
       · intro p hp
         obtain rfl := List.mem_singleton.1 hp
         exact ⟨hv, hh.2.1, hh.2.2.1⟩
       · split
         · exact IL _ _ _ _ _ hd hr (by split; exact hk; exact he)
         · split
           · split
             · split
               · exact IL _ _ _ _ _ hd hr he
               · exact allO_items (fun x f hx => IL _ _ _ _ _ hx hr hk) _ _ fun i x hx => Va.sm_get hv hx
             · intro p hp; cases hp
           · split
             · intro p hp; cases hp
             · exact IL _ _ _ _ _ hv hv (hD _)
theorem defF_wf {l : List Df} (h : ∀ d ∈ l, d.kids.wf) (n : ByteArray) : (defF l n).wf := by
 by_cases hn : defF l n = .nil
 · rw [hn]; exact trivial
 · obtain ⟨d, hd, he⟩ := defF_mem hn
   rw [← he]
   exact h d hd
theorem endF_out (r : Ev.Rs) : (endF r).1 = r.out := by unfold endF; split <;> rfl
theorem run_out {t : Tm} (hw : TmW t) {v : Va} (hv : Va.sm v) (fuel calls : Int) : (∀ p ∈ (Ev.runT t v fuel calls).1, Pc.ok p) ∧ (Ev.runT t v fuel calls).1.length ≤ 1000000 := by
 unfold Ev.runT
 split
 · exact ⟨fun p hp => (by cases hp), Nat.zero_le _⟩
 · split
   · exact ⟨fun p hp => (by cases hp), Nat.zero_le _⟩
   · rw [endF_out]
     refine ⟨allO_list (fun x k e f q1 q2 q3 => allO_ev (defF_wf fun d hd => (hw.defs d hd).2.1) _ v v 0 x k e f hv hv q1 q2 q3) _ _ hw.main.1, ?_⟩
     have h1 := cost_list (one := evF (defF t.defs) (clampF 256 calls) (clampF 1000000 fuel) v v 0) (F := clampF 1000000 fuel) (fun x k e f _ => cost_ev _ v v 0 x k e f) t.main (clampF 1000000 fuel) (Nat.le_refl _)
     have h2 := clamp_le 1000000 fuel
     show (runF _ _ _ _ _).out.length ≤ _
     unfold runF
     omega
attribute [local go_sem ↓] Go.wp_at_zero Go.wp_at_succ
def FarR (t : Tm) (v : Va) (w : World) (e : Ending) (w' : World) : Prop := ∃ b : Bool, e = .returned (.bool b) ∧ (b = false → wtT t ≤ 2048 ∧ wvF 2048 v ≤ 2048) ∧ Below w.heap.size w w'
set_option maxRecDepth 100000 in
set_option maxHeartbeats 8000000 in
theorem far_calls (t : Tm) (ht : TmW t) (v : Va) (hv : Va.wf v) (am ad a1 a2 : Option Addr) (cm cd c1 c2 : Nat) (w : World) (hp : Parts (· < w.heap.size) w (.slice am t.main.len cm) t.main) (hd : Defs (· < w.heap.size) w (.slice ad t.defs.length cd) t.defs) (hx : ValS (· < w.heap.size) w v a1 c1 a2 c2) :
 Calls Tryz.prog 9 #[.agg #[.slice am t.main.len cm, .slice ad t.defs.length cd], .agg #[.int .u8 (v.h.kind : Nat), .bool v.h.b, .int .i64 v.h.n, .int .u64 (v.h.bits : Nat), .string v.h.text, .slice a1 v.h.keys.length c1, .slice a2 v.items.len c2]] w (FarR t v w) := by
 have WT : Hid (∀ W, Below w.heap.size w W → Calls Tryz.prog 27 #[.agg #[.slice am t.main.len cm, .slice ad t.defs.length cd], .int .i64 2048] W (WgTP 2048 t W)) := fun W hW => weighTemplate_calls t 2048 (by decide) ht _ _ _ W (hp.kept (Kept.of_below hW)) (hd.kept (Kept.of_below hW))
 have WV : Hid (∀ W, Below w.heap.size w W → Calls Tryz.prog 24 #[.agg #[.int .u8 (v.h.kind : Nat), .bool v.h.b, .int .i64 v.h.n, .int .u64 (v.h.bits : Nat), .string v.h.text, .slice a1 v.h.keys.length c1, .slice a2 v.items.len c2], .int .i64 2048] W (WvP 2048 v W)) := fun W hW => weighValue_calls v 2048 (by decide) _ _ W hv (hx.kept (Kept.of_below hW)).val
 clear hp hd hx ht hv
 have HT : Hid (∀ W0, ((w.alloc (.cells #[.slice am t.main.len cm, .slice ad t.defs.length cd] 25)).alloc (.cells #[.int .u8 (v.h.kind : Nat), .bool v.h.b, .int .i64 v.h.n, .int .u64 (v.h.bits : Nat), .string v.h.text, .slice a1 v.h.keys.length c1, .slice a2 v.items.len c2] 31)) = W0 → Below w.heap.size w W0 ∧ W0.heap.size = w.heap.size + 2 ∧ W0.heap[w.heap.size]? = some (.cells #[.slice am t.main.len cm, .slice ad t.defs.length cd] 25 (0, 0)) ∧ W0.heap[w.heap.size + 1]? = some (.cells #[.int .u8 (v.h.kind : Nat), .bool v.h.b, .int .i64 v.h.n, .int .u64 (v.h.bits : Nat), .string v.h.text, .slice a1 v.h.keys.length c1, .slice a2 v.items.len c2] 31 (0, 0))) := by
  rintro W0 rfl
  have n0 := heap_alloc_new w (.cells #[.slice am t.main.len cm, .slice ad t.defs.length cd] 25)
  have n1 := heap_alloc_new (w.alloc (.cells #[.slice am t.main.len cm, .slice ad t.defs.length cd] 25)) (.cells #[.int .u8 (v.h.kind : Nat), .bool v.h.b, .int .i64 v.h.n, .int .u64 (v.h.bits : Nat), .string v.h.text, .slice a1 v.h.keys.length c1, .slice a2 v.items.len c2] 31)
  simp only [World.size_alloc] at n1
  exact ⟨((Below.refl _ w).alloc (Nat.le_refl _) _).alloc (by simp) _, by simp, (Below.heap_alloc _ _ _ (by simp)).trans n0, n1⟩
 go_enter Tryz.func9, Tryz.ntmps9
 go_upto_region 1 with (fail)
 try simp only [Nat.add_assoc, Nat.reduceAdd]
 generalize hWW : World.alloc (World.alloc w _) _ = w0 at *
 obtain ⟨hb0, hz0, ht0, hv0⟩ := HT.out w0 rfl
 clear hWW HT
 have HB0 := Lib.hid hb0
 have HV0 := Lib.hid hv0
 have t0 : w0.cell? ⟨w.heap.size, 0, none⟩ = some (.slice am t.main.len cm) := by rw [cell_of_heap' ht0]; rfl
 have t1 : w0.cell? ⟨w.heap.size, 1, none⟩ = some (.slice ad t.defs.length cd) := by rw [cell_of_heap' ht0]; rfl
 clear hb0 ht0 hv0
 go_wp2_with fail
 refine (WT.out w0 HB0.out).mono ?_
 rintro e w1 ⟨m, rfl, hm, hb1⟩
 have HB1 : Hid (Below w.heap.size w w1) := HB0.out.trans (hb1.mono (by omega))
 have hv1 := (hb1.block _ (by omega)).trans HV0.out
 have HM := Lib.hid hm
 clear hb1 t0 t1 hm
 have v0 : w1.cell? ⟨w.heap.size + 1, 0, none⟩ = some (.int .u8 (v.h.kind : Nat)) := by rw [cell_of_heap' hv1]; rfl
 have v1 : w1.cell? ⟨w.heap.size + 1, 1, none⟩ = some (.bool v.h.b) := by rw [cell_of_heap' hv1]; rfl
 have v2 : w1.cell? ⟨w.heap.size + 1, 2, none⟩ = some (.int .i64 v.h.n) := by rw [cell_of_heap' hv1]; rfl
 have v3 : w1.cell? ⟨w.heap.size + 1, 3, none⟩ = some (.int .u64 (v.h.bits : Nat)) := by rw [cell_of_heap' hv1]; rfl
 have v4 : w1.cell? ⟨w.heap.size + 1, 4, none⟩ = some (.string v.h.text) := by rw [cell_of_heap' hv1]; rfl
 have v5 : w1.cell? ⟨w.heap.size + 1, 5, none⟩ = some (.slice a1 v.h.keys.length c1) := by rw [cell_of_heap' hv1]; rfl
 have v6 : w1.cell? ⟨w.heap.size + 1, 6, none⟩ = some (.slice a2 v.items.len c2) := by rw [cell_of_heap' hv1]; rfl
 clear hv1
 by_cases h1 : m ≤ 2048
 rotate_left
 · have hgd : decide ((2048 : Int) < (m : Int)) = true := decide_eq_true (by omega)
   have hgl : (2048 : Int) < (m : Int) := by omega
   clear h1
   go_wp2_with fail
   go_ret
   exact ⟨true, rfl, fun h => (by cases h), HB1.out⟩
 have hgd : decide ((2048 : Int) < (m : Int)) = false := decide_eq_false (by omega)
 have hgl : ¬ (2048 : Int) < (m : Int) := by omega
 have H1 : Hid (wtT t ≤ 2048) := by have := HM.out h1; unfold Hid; omega
 clear h1
 go_wp2_with fail
 refine (WV.out w1 HB1.out).mono ?_
 rintro e w2 ⟨rfl, hb2⟩
 have HB2 : Hid (Below w.heap.size w w2) := HB1.out.trans (hb2.mono HB1.out.size)
 clear hb2 v0 v1 v2 v3 v4 v5 v6 hgd hgl
 by_cases h2 : wvF 2048 v ≤ 2048
 · have hgd : decide ((2048 : Int) < (wvF 2048 v : Int)) = false := decide_eq_false (by omega)
   have H2 := Lib.hid h2
   clear h2
   go_wp2_with fail
   go_ret
   exact ⟨false, rfl, fun _ => ⟨H1.out, H2.out⟩, HB2.out⟩
 · have hgd : decide ((2048 : Int) < (wvF 2048 v : Int)) = true := decide_eq_true (by omega)
   clear h2
   go_wp2_with fail
   go_ret
   exact ⟨true, rfl, fun h => (by cases h), HB2.out⟩
theorem RowP.lt {ok : Nat → Prop} {w : World} : ∀ (l : List Pc) (b o : Nat), RowP ok w l b o → RowP (fun b => ok b ∧ b < w.heap.size) w l b o := by
 intro l
 induction l with
 | nil => intro b o _; exact trivial
 | cons p r ih => rintro b o ⟨h1, h2, h3⟩; exact ⟨h1, RowX.lt _ _ _ h2, ih b _ h3⟩
def RestPc (ok : Nat → Prop) (a : Option Addr) (w : World) (r : List Pc) (k : Nat) : Prop := r ≠ [] → ∃ b o, a = some ⟨b, o, none⟩ ∧ (ok b ∧ b < w.heap.size) ∧ RowP (fun b => ok b ∧ b < w.heap.size) w r b (o + k * 10)
theorem Pcs.rest {ok : Nat → Prop} {w : World} {v : Value} {l : List Pc} (h : Pcs ok w v l) : ∃ a c, v = .slice a l.length c ∧ l.length ≤ c ∧ c ≤ maxLen ∧ RestPc ok a w l 0 := by
 obtain ⟨a, c, rfl, h1, h2, h3⟩ := h
 refine ⟨a, c, rfl, h1, h2, fun hne => ?_⟩
 obtain ⟨b, o, q1, q2, q3⟩ := h3 hne
 refine ⟨b, o, q1, ⟨q2, ?_⟩, by rw [Nat.zero_mul, Nat.add_zero]; exact RowP.lt _ _ _ q3⟩
 cases l with
 | nil => exact absurd rfl hne
 | cons p r => exact lt_of_cell q3.1.1
set_option maxRecDepth 100000 in
set_option maxHeartbeats 8000000 in
theorem samePieces_calls (l : List Pc) (hw : ∀ p ∈ l, Va.wf p.val) (hl : l.length ≤ 140737488351232) (ok ok' : Nat → Prop) (v v' : Value) (w : World) (h : Pcs ok w v l) (h' : Pcs ok' w v' l) :
 Calls Tryz.prog 17 #[v, v'] w fun e w' => e = .returned (.bool true) ∧ Below w.heap.size w w' := by
 obtain ⟨a, c, rfl, -, -, h3⟩ := Pcs.rest h
 obtain ⟨a', c', rfl, -, -, h3'⟩ := Pcs.rest h'
 have HX := Lib.hid h3
 have HY := Lib.hid h3'
 have HW := Lib.hid hw
 clear h3 h3' h h' hw
 go_enter Tryz.func17, Tryz.ntmps17
 go_wp2_with fail
 go_loopw [5] (fun i wr => ∃ (k : Nat) (r : List Pc), i = .int .i64 (k : Nat) ∧ k + r.length = l.length ∧ Hid (Below w.heap.size w wr) ∧ Hid (RestPc ok a w r k) ∧ Hid (RestPc ok' a' w r k) ∧ Hid (∀ p ∈ r, p ∈ l)) (fun i _ => l.length - (intOf i).toNat)
 case atStart => exact ⟨0, l, rfl, by omega, Below.refl _ _, HX, HY, fun _ h => h⟩
 case round =>
  obtain ⟨k, r, rfl, hk, HB, HRX, HRY, HF⟩ := hrel
  cases r with
  | nil =>
    simp only [List.length_nil] at hk
    have hge : ¬ (k : Int) < (l.length : Int) := by omega
    go_wp2_with fail
    go_ret
    exact ⟨rfl, HB.out⟩
  | cons p r =>
    simp only [List.length_cons] at hk
    have hlt' : (k : Int) < (l.length : Int) := by omega
    have hk0 : (0 : Int) ≤ (k : Int) := by omega
    obtain ⟨b, o, rfl, hb, hrow⟩ := HRX.out (by simp)
    obtain ⟨b', o', rfl, hb', hrow'⟩ := HRY.out (by simp)
    have HRS : Hid (RestPc ok (some ⟨b, o, none⟩) w r (k + 1)) := fun _ => ⟨b, o, rfl, hb, by have := hrow.2.2; rwa [show o + k * 10 + 10 = o + (k + 1) * 10 by omega] at this⟩
    have HSS : Hid (RestPc ok' (some ⟨b', o', none⟩) w r (k + 1)) := fun _ => ⟨b', o', rfl, hb', by have := hrow'.2.2; rwa [show o' + k * 10 + 10 = o' + (k + 1) * 10 by omega] at this⟩
    have HFR : Hid (∀ p ∈ r, p ∈ l) := fun q hq => HF.out q (List.mem_cons_of_mem _ hq)
    have hwp := HW.out p (HF.out p (List.mem_cons_self ..))
    obtain ⟨⟨g0, g1, g2⟩, ⟨⟨c0, c1, c2, c3, c4, v5, c5, hs5⟩, ⟨ag, cg, c6, k1, k2, k3⟩, -⟩, -⟩ := RowP.kept (fun b hb => HB.out.block b hb.2) _ _ _ hb hrow
    obtain ⟨⟨f0, f1, f2⟩, ⟨⟨d0, d1, d2, d3, d4, v5', d5, hs5'⟩, ⟨ag', cg', d6, k1', k2', k3'⟩, -⟩, -⟩ := RowP.kept (fun b hb => HB.out.block b hb.2) _ _ _ hb' hrow'
    have HM1 : Hid (ValM (fun b => ok b ∧ b < w.heap.size) wr (.agg #[.int .u8 (p.val.h.kind : Nat), .bool p.val.h.b, .int .i64 p.val.h.n, .int .u64 (p.val.h.bits : Nat), .string p.val.h.text, v5, .slice ag p.val.items.len cg]) p.val) := ⟨_, _, rfl, hs5, ag, cg, rfl, k1, k2, k3⟩
    have HM2 : Hid (ValM (fun b => ok' b ∧ b < w.heap.size) wr (.agg #[.int .u8 (p.val.h.kind : Nat), .bool p.val.h.b, .int .i64 p.val.h.n, .int .u64 (p.val.h.bits : Nat), .string p.val.h.text, v5', .slice ag' p.val.items.len cg']) p.val) := ⟨_, _, rfl, hs5', ag', cg', rfl, k1', k2', k3'⟩
    have hsw := HB.out.size
    have KC : Hid (∀ W, Below wr.heap.size wr W → Calls Tryz.prog 14 #[.agg #[.int .u8 (p.val.h.kind : Nat), .bool p.val.h.b, .int .i64 p.val.h.n, .int .u64 (p.val.h.bits : Nat), .string p.val.h.text, v5, .slice ag p.val.items.len cg], .agg #[.int .u8 (p.val.h.kind : Nat), .bool p.val.h.b, .int .i64 p.val.h.n, .int .u64 (p.val.h.bits : Nat), .string p.val.h.text, v5', .slice ag' p.val.items.len cg']] W fun e w' => e = .returned (.bool true) ∧ Below W.heap.size W w') := fun W hW =>
     sameValue_calls p.val (fun b => ok b ∧ b < w.heap.size) (fun b => ok' b ∧ b < w.heap.size) _ _ W hwp (HM1.out.kept (fun b hb => hW.block b (by have := hb.2; omega))) (HM2.out.kept (fun b hb => hW.block b (by have := hb.2; omega)))
    have HG : Hid (∀ W, Below wr.heap.size wr W → (W.cell? ⟨b, o + k * 10, none⟩ = some (.int .i64 p.pos) ∧ W.cell? ⟨b, o + k * 10 + 1, none⟩ = some (.bool p.hole) ∧ W.cell? ⟨b, o + k * 10 + 2, none⟩ = some (.string p.text)) ∧ W.cell? ⟨b', o' + k * 10, none⟩ = some (.int .i64 p.pos) ∧ W.cell? ⟨b', o' + k * 10 + 1, none⟩ = some (.bool p.hole) ∧ W.cell? ⟨b', o' + k * 10 + 2, none⟩ = some (.string p.text)) := fun W hW =>
     have q : b < wr.heap.size := by have := hb.2; omega
     have q' : b' < wr.heap.size := by have := hb'.2; omega
     ⟨⟨(hW.cell (p := ⟨b, _, none⟩) q).trans g0, (hW.cell (p := ⟨b, _, none⟩) q).trans g1, (hW.cell (p := ⟨b, _, none⟩) q).trans g2⟩, (hW.cell (p := ⟨b', _, none⟩) q').trans f0, (hW.cell (p := ⟨b', _, none⟩) q').trans f1, (hW.cell (p := ⟨b', _, none⟩) q').trans f2⟩
    obtain ⟨av5, cv5, rfl, -⟩ := hs5
    obtain ⟨av5', cv5', rfl, -⟩ := hs5'
    have HKI := Lib.hid hk
    clear k3 k3' hrow hrow' hwp hk HM1 HM2 g0 g1 g2 f0 f1 f2
    go_upto_region 6 with (fail)
    go_still_tail 10, (by kernel_rfl)
    change wpList _ _ _ _ _ wr.drew
    have HBd : Hid (Below wr.heap.size wr wr.drew) := ⟨rfl, rfl, rfl, Nat.le_refl _, fun _ _ => rfl⟩
    clear c0 c1 c2 c3 c4 c5 c6 d0 d1 d2 d3 d4 d5 d6
    generalize wr.drew = w2 at *
    go_wp2_with fail
    refine (KC.out _ HBd.out).mono ?_
    rintro e w3 ⟨rfl, hb3⟩
    have HBX : Hid (Below wr.heap.size wr w3) := HBd.out.trans (hb3.mono HBd.out.size)
    have HB3 : Hid (Below w.heap.size w w3) := HB.out.trans (HBX.out.mono hsw)
    obtain ⟨⟨g0, g1, g2⟩, f0, f1, f2⟩ := HG.out _ HBX.out
    clear hb3 KC
    go_wp2_with fail
    go_quiet (fail)
    go_wp2_with fail
    go_roundw
    case rel => exact ⟨k + 1, r, by go_num, by have := HKI.out; omega, below_drewN HB3.out _, HRS, HSS, HFR⟩
    case measure => simp [intOf]; have := HKI.out; omega
def RowXC (ok : Nat → Prop) (w : World) : Vl → List Value → Prop
 | .nil, cs => cs = []
 | .cons h k r, cs => ∃ vk vi cs', cs = [.int .u8 (h.kind : Nat), .bool h.b, .int .i64 h.n, .int .u64 (h.bits : Nat), .string h.text, vk, vi] ++ cs' ∧ Strs ok w vk h.keys ∧ Vals ok w vi k ∧ RowXC ok w r cs'
theorem RowXC.kept {ok : Nat → Prop} {w w' : World} (hk : Kept ok w w') : ∀ (t : Vl) (cs : List Value), RowXC ok w t cs → RowXC ok w' t cs := by
 intro t
 induction t with
 | nil => intro cs h; exact h
 | cons h k r _ ih =>
   rintro cs ⟨vk, vi, cs', rfl, h1, h2, h3⟩
   exact ⟨vk, vi, cs', rfl, h1.kept hk, h2.kept hk, ih _ h3⟩
theorem RowXC.mono {ok ok' : Nat → Prop} {w : World} (hk : ∀ b, ok b → ok' b) : ∀ (t : Vl) (cs : List Value), RowXC ok w t cs → RowXC ok' w t cs := by
 intro t
 induction t with
 | nil => intro cs h; exact h
 | cons h k r _ ih =>
   rintro cs ⟨vk, vi, cs', rfl, h1, h2, h3⟩
   exact ⟨vk, vi, cs', rfl, h1.mono hk, h2.mono hk, ih _ h3⟩
theorem RowXC.len {ok : Nat → Prop} {w : World} : ∀ (t : Vl) (cs : List Value), RowXC ok w t cs → cs.length = t.len * 7 := by
 intro t
 induction t with
 | nil => intro cs h; obtain rfl : cs = [] := h; rfl
 | cons h k r _ ih =>
   rintro cs ⟨vk, vi, cs', rfl, h1, h2, h3⟩
   have := ih _ h3
   simp only [List.length_append, List.length_cons, List.length_nil, Vl.len]; omega
theorem RowXC.row {ok : Nat → Prop} {w : World} : ∀ (t : Vl) (cs : List Value) (b o : Nat), RowXC ok w t cs → (∀ j u, cs[j]? = some u → w.cell? ⟨b, o + j, none⟩ = some u) → RowX ok w t b o := by
 intro t
 induction t with
 | nil => intro cs b o _ _; exact trivial
 | cons h k r _ ih =>
   rintro cs b o ⟨vk, vi, cs', rfl, h1, ⟨a, c, rfl, k1, k2, k3⟩, h3⟩ hc
   refine ⟨⟨hc 0 _ rfl, hc 1 _ rfl, hc 2 _ rfl, hc 3 _ rfl, hc 4 _ rfl, vk, hc 5 _ rfl, h1⟩, ⟨a, c, hc 6 _ rfl, k1, k2, k3⟩, ih cs' b (o + 7) h3 (fun j u hj => ?_)⟩
   have := hc (7 + j) u (by rw [List.getElem?_append_right (by simp)]; simpa using hj)
   rwa [show o + (7 + j) = o + 7 + j by omega] at this
theorem RowXC.app {ok : Nat → Prop} {w : World} (y : Vl) (ds : List Value) (hy : RowXC ok w y ds) : ∀ (t : Vl) (cs : List Value), RowXC ok w t cs → RowXC ok w (Vl.app t y) (cs ++ ds) := by
 intro t
 induction t with
 | nil => intro cs h; obtain rfl : cs = [] := h; exact hy
 | cons h k r _ ih =>
   rintro cs ⟨vk, vi, cs', rfl, h1, h2, h3⟩
   exact ⟨vk, vi, cs' ++ ds, by simp, h1, h2, ih _ h3⟩
def Nv (ok : Nat → Prop) (P Q : Nat) (u : Bool) (w : World) (v : Value) (b : Nat) : Prop := ((u = false ∧ ok b ∧ b < P) ∨ Q ≤ b) ∧ b < w.heap.size ∧ v.ownBlock ≠ some b ∧ (u = true → UnF w b)
def OutX (ok : Nat → Prop) (P Q : Nat) (u : Bool) (w : World) (v : Value) (t : Vl) : Prop := ∃ cs, w.ownsRow Q 31 7 v t.len cs ∧ RowXC (Nv ok P Q u w v) w t cs
theorem OutX.nil (ok : Nat → Prop) (P Q : Nat) (u : Bool) (w : World) : OutX ok P Q u w (.slice none 0 0) .nil := ⟨[], World.ownsRow_nil _ _ _ _, rfl⟩
theorem OutX.below {ok : Nat → Prop} {P Q : Nat} {u : Bool} {w w' : World} {v : Value} {t : Vl} (h : OutX ok P Q u w v t) (hb : Below w.heap.size w w') : OutX ok P Q u w' v t := by
 obtain ⟨cs, h1, h2⟩ := h
 refine ⟨cs, own_kept h1 (fun g hg => hb.block g (own_new h1 g hg).2), ?_⟩
 exact (h2.kept (fun b h => hb.block b h.2.1)).mono (fun b h => ⟨h.1, Nat.lt_of_lt_of_le h.2.1 hb.size, h.2.2.1, fun e => (h.2.2.2 e).same (hb.block b h.2.1)⟩) _ _
theorem run_app_row (T e : TypeId) (i : TypeInfo) (z : Value) (size bytes : Nat) (ht : Tryz.prog.underlying T = some (.slice e)) (hi : Tryz.prog.info? e = some i) (hz : i.zero = some z) (hsize : i.size = size) (hby : i.bytes = bytes) (hzs : z.cells.size = size) (hsz : 0 < size) (w : World) (ty : TypeId)
 (base : Nat) (v : Value) (n : Nat) (xs : List Value) (hown : w.ownsRow base e size v n xs) (ad : Option Addr) (m c : Nat) (cs : List Value) (hl : cs.length = m * size) (hc : ∀ (j : Nat) u, cs[j]? = some u → ∃ b o, ad = some ⟨b, o, none⟩ ∧ w.cell? ⟨b, o + j, none⟩ = some u) (h1 : ∀ u ∈ cs, u.oneCell' = true)
 (h63 : n + m ≤ maxLen) (hbytes : (n + m) * bytes ≤ 140737488355328) (hbase : base ≤ w.heap.size) :
 ∃ v' w', (Builtin.append_ #[T, T] ty #[v, .slice ad m c]).run Tryz.prog w = .ok v' w' ∧ w'.ownsRow base e size v' (n + m) (xs ++ cs) ∧ w.grownBy w' v.ownBlock := by
 cases ad with
 | none =>
   have hnil : cs = [] := by
    cases cs with
    | nil => rfl
    | cons u r => obtain ⟨b, o, h, -⟩ := hc 0 u rfl; cases h
   subst hnil
   have hm : m = 0 := by
    rcases Nat.eq_zero_or_pos m with h | h
    · exact h
    · have := Nat.mul_pos h hsz; simp at hl; omega
   subst hm
   exact ⟨v, w, run_append_none base T ty e i size ht hi c v n xs hown, by rw [Nat.add_zero, List.append_nil]; exact hown, World.grownBy.refl w _⟩
 | some a =>
   obtain ⟨v', w', q1, q2, q3, -⟩ := run_append_own w base T ty e i z size bytes ht hi hz hsize hby hzs hsz v n xs hown a m c cs hl (fun j u hj => by
    obtain ⟨b, o, he, hcl⟩ := hc j u hj
    cases he
    rw [add_off]
    exact hcl) h1 h63 hbytes hbase
   exact ⟨v', w', q1, q2, q3⟩
theorem app_row {ops : Array Oper} {rest : List Oper} {o : Oper} {a : Act} {w : World} {Q : Exit → Act → World → Prop} (hgd : o.guard = none) (s x : Operand) (T : TypeId)
 (ho : o.op = .call { callee := .builtin .append, args := #[s, x], argTypes := #[T, T] })
 (v v2 : Value) (hs : a.eval s = v) (hx : a.eval x = v2) (R : Value → World → Prop) (hr : ∀ ty, ∃ v' w', (Builtin.append_ #[T, T] ty #[v, v2]).run Tryz.prog w = .ok v' w' ∧ R v' w')
 (H : ∀ v' w', R v' w' → wpList Tryz.prog ops Q rest (a.put o.dst v') w') : wpList Tryz.prog ops Q (o :: rest) a w := by
 obtain ⟨v', w', hrun, hR⟩ := hr o.type
 refine wpList_plain hgd fun K hK => ?_
 unfold Oper.wp
 simp [execOp, ho, resolve, invoke, builtin, hs, hx, hrun, Result.andThen]
 exact hK _ _ (H _ _ hR)
theorem step_row {ops : Array Oper} {o : Oper} {a : Act} {w : World} {K : Act → World → Prop} {Q : Exit → Act → World → Prop} {E : Prop} (hgd : o.guard = none) (s x : Operand) (T : TypeId)
 (ho : o.op = .call { callee := .builtin .append, args := #[s, x], argTypes := #[T, T] })
 (v v2 : Value) (hs : a.eval s = v) (hx : a.eval x = v2) (R : Value → World → Prop) (hr : ∀ ty, ∃ v' w', (Builtin.append_ #[T, T] ty #[v, v2]).run Tryz.prog w = .ok v' w' ∧ R v' w')
 (H : ∀ v' w', R v' w' → K (a.put o.dst v') w') :
 if Region.wanted o (yielded ops a.tmps) = true then Oper.wp Tryz.prog o a w K Q else E := by
 have hw : Region.wanted o (yielded ops a.tmps) = true := by simp [Region.wanted, hgd]
 rw [if_pos hw]
 obtain ⟨v', w', hrun, hR⟩ := hr o.type
 unfold Oper.wp execOp
 simp only [ho, resolve, invoke, builtin, Sem.run_bind, Sem.run_pure, Result.andThen_ok, List.map_toArray, List.map_cons, List.map_nil, hs, hx, hrun]
 exact H v' w' hR
theorem merge7 {A B C D E F J : Type} {g : Prop} (R : A → B → C → D → E → F → J → Prop) (G : A → B → C → D → E → F → J → Prop) (h : (∀ a b c d e f j, R a b c d e f j → G a b c d e f j) → g) (k : ∀ a b c d e f j, R a b c d e f j → G a b c d e f j) : g := h k
theorem own_shp {B sz n : Nat} {e : TypeId} {w : World} {v : Value} {xs : List Value} (h : w.ownsRow B e sz v n xs) : ∃ a m c, v = .slice a m c := by
 obtain ⟨a, c, rfl, -⟩ := own_elems h
 exact ⟨a, n, c, rfl⟩
def repL {α : Type} (cs : List α) : Nat → List α
 | 0 => []
 | n + 1 => repL cs n ++ cs
theorem repL_len {α : Type} (cs : List α) : ∀ n, (repL cs n).length = n * cs.length
 | 0 => by simp [repL]
 | n + 1 => by rw [repL, List.length_append, repL_len cs n, Nat.add_mul, Nat.one_mul]
theorem repL_repO (l : List Pc) : ∀ n, repL l n = repO l n
 | 0 => rfl
 | n + 1 => by rw [repL, repL_repO l n, repO_snoc]
theorem Row.cellsC {ok : Nat → Prop} {w : World} : ∀ (t : Pt) (b o : Nat), Row ok w t b o → ∃ cs : List Value, cs.length = t.len * 8 ∧ (∀ (j : Nat) u, cs[j]? = some u → w.cell? ⟨b, o + j, none⟩ = some u) ∧ RowC ok w t cs ∧ ∀ u ∈ cs, u.oneCell' = true := by
 intro t
 induction t with
 | nil => intro b o _; exact ⟨[], rfl, fun j u h => by simp at h, rfl, fun u h => by cases h⟩
 | cons h k e r _ _ ih =>
   rintro b o ⟨⟨c0, c1, c2, c3, ⟨v, c4, hs⟩, c5⟩, ⟨ak, ck, c6, k1, k2, k3⟩, ⟨ae, ce, c7, e1, e2, e3⟩, hrest⟩
   obtain ⟨cs, h1, h2, h3, h4⟩ := ih b (o + 8) hrest
   obtain ⟨an, cn, rfl⟩ := hs.cases
   refine ⟨hdCells h (.slice an h.names.length cn) (.slice ak k.len ck) (.slice ae e.len ce) ++ cs, by simp [Pt.len, h1, hdCells]; omega, fun j u hj => ?_, ⟨_, _, _, cs, rfl, hs, ⟨ak, ck, rfl, k1, k2, k3⟩, ⟨ae, ce, rfl, e1, e2, e3⟩, h3⟩, fun u hu => ?_⟩
   · by_cases hj8 : j < 8
     · match j, hj8 with
       | 0, _ => simp [hdCells] at hj; subst hj; exact c0
       | 1, _ => simp [hdCells] at hj; subst hj; exact c1
       | 2, _ => simp [hdCells] at hj; subst hj; exact c2
       | 3, _ => simp [hdCells] at hj; subst hj; exact c3
       | 4, _ => simp [hdCells] at hj; subst hj; exact c4
       | 5, _ => simp [hdCells] at hj; subst hj; exact c5
       | 6, _ => simp [hdCells] at hj; subst hj; exact c6
       | 7, _ => simp [hdCells] at hj; subst hj; exact c7
     · rw [List.getElem?_append_right (by simp [hdCells]; omega)] at hj
       have := h2 _ u hj
       simp only [hdCells, List.length_cons, List.length_nil] at this
       rwa [show o + 8 + (j - (0 + 1 + 1 + 1 + 1 + 1 + 1 + 1 + 1)) = o + j by omega] at this
   · simp only [hdCells, List.mem_append, List.mem_cons, List.not_mem_nil, or_false] at hu
     rcases hu with (rfl | rfl | rfl | rfl | rfl | rfl | rfl | rfl) | hu
     all_goals first | rfl | exact h4 u hu
theorem Parts.cells {ok : Nat → Prop} {w : World} {ad : Option Addr} {m c : Nat} {t : Pt} (h : Parts ok w (.slice ad m c) t) : m = t.len ∧ ∃ cs : List Value, cs.length = m * 8 ∧ (∀ (j : Nat) u, cs[j]? = some u → ∃ b o, ad = some ⟨b, o, none⟩ ∧ b < w.heap.size ∧ w.cell? ⟨b, o + j, none⟩ = some u) ∧ RowC ok w t cs ∧ ∀ u ∈ cs, u.oneCell' = true := by
 obtain ⟨a', c', he, h1, h2, h3⟩ := h
 cases he
 refine ⟨rfl, ?_⟩
 cases t with
 | nil => exact ⟨[], rfl, fun j u h => by simp at h, rfl, fun u h => by cases h⟩
 | cons hd k e r =>
   obtain ⟨b, o, rfl, -, hrow⟩ := h3 (by simp)
   obtain ⟨cs, q1, q2, q3, q4⟩ := Row.cellsC _ _ _ hrow
   exact ⟨cs, q1, fun j u hj => ⟨b, o, rfl, lt_of_cell hrow.1.1, q2 j u hj⟩, q3, q4⟩
theorem pts_own {ok : Nat → Prop} {w : World} {B n : Nat} {v : Value} {t : Pt} {cs : List Value} (h : w.ownsRow B 56 8 v n cs) (hr : RowC ok w t cs) (hn : n = t.len) (hok : ∀ b, ok b → b < w.heap.size) : Parts (· < w.heap.size) w v t := by
 subst hn
 obtain ⟨a, c, rfl, h3, h4, h5⟩ := own_elems h
 have hl := RowC.len _ _ hr
 refine ⟨a, c, rfl, h3, h4, fun hne => ?_⟩
 obtain ⟨g, rfl, hg1, hg2, hc⟩ := h5 (by rintro rfl; cases t with
  | nil => exact hne rfl
  | cons _ _ _ _ => simp [Pt.len] at hl)
 exact ⟨g, 0, rfl, hg2, RowC.row t cs g 0 (RowC.mono hok _ _ hr) (fun j u hj => by rw [Nat.zero_add]; exact hc j u hj)⟩
theorem RowP.move {ok ok' : Nat → Prop} {w w' : World} (hok : ∀ b, ok b → ok' b ∧ w'.heap[b]? = w.heap[b]?) : ∀ (l : List Pc) (b o b' o' : Nat), (∀ j, j < l.length * 10 → w'.cell? ⟨b', o' + j, none⟩ = w.cell? ⟨b, o + j, none⟩) → RowP ok w l b o → RowP ok' w' l b' o' := by
 intro l
 induction l with
 | nil => intro b o b' o' _ _; exact trivial
 | cons p r ih =>
   rintro b o b' o' hc ⟨⟨c0, c1, c2⟩, hx, hrest⟩
   simp only [List.length_cons] at hc
   refine ⟨⟨(hc 0 (by omega)).trans c0, (hc 1 (by omega)).trans c1, (hc 2 (by omega)).trans c2⟩, RowX.move hok _ b (o + 3) b' (o' + 3) (fun j hj => ?_) hx, ih b (o + 10) b' (o' + 10) (fun j hj => ?_) hrest⟩
   · simp only [Vl.len] at hj
     rw [show o' + 3 + j = o' + (3 + j) by omega, show o + 3 + j = o + (3 + j) by omega]
     exact hc (3 + j) (by omega)
   · rw [show o' + 10 + j = o' + (10 + j) by omega, show o + 10 + j = o + (10 + j) by omega]
     exact hc (10 + j) (by omega)
theorem RowP.append {ok : Nat → Prop} {w : World} (m : List Pc) : ∀ (l : List Pc) (b o : Nat), RowP ok w l b o → RowP ok w m b (o + 10 * l.length) → RowP ok w (l ++ m) b o := by
 intro l
 induction l with
 | nil => intro b o _ h; exact h
 | cons p r ih =>
   rintro b o ⟨h1, h2, h3⟩ hm
   refine ⟨h1, h2, ih b (o + 10) h3 ?_⟩
   rwa [show o + 10 + 10 * r.length = o + 10 * (r.length + 1) by omega]
theorem RowP.cells {ok : Nat → Prop} {w : World} : ∀ (l : List Pc) (b o : Nat), RowP ok w l b o → ∃ cs : List Value, cs.length = l.length * 10 ∧ (∀ (j : Nat) u, cs[j]? = some u → w.cell? ⟨b, o + j, none⟩ = some u) ∧ ∀ u ∈ cs, u.oneCell' = true := by
 intro l
 induction l with
 | nil => intro b o _; exact ⟨[], rfl, fun j u h => by simp at h, fun u h => by cases h⟩
 | cons p r ih =>
   rintro b o ⟨⟨c0, c1, c2⟩, hx, hrest⟩
   obtain ⟨cs, h1, h2, h3⟩ := ih b (o + 10) hrest
   obtain ⟨ds, d1, d2, d3⟩ := RowX.cells _ _ _ hx
   simp only [Vl.len] at d1
   refine ⟨[.int .i64 p.pos, .bool p.hole, .string p.text] ++ (ds ++ cs), by simp [h1, d1]; omega, fun j u hj => ?_, fun u hu => ?_⟩
   · by_cases hj3 : j < 3
     · match j, hj3 with
       | 0, _ => simp at hj; subst hj; exact c0
       | 1, _ => simp at hj; subst hj; exact c1
       | 2, _ => simp at hj; subst hj; exact c2
     · rw [List.getElem?_append_right (by simp; omega)] at hj
       simp only [List.length_cons, List.length_nil] at hj
       by_cases hj10 : j < 10
       · rw [List.getElem?_append_left (by omega)] at hj
         have := d2 _ u hj
         rwa [show o + 3 + (j - (0 + 1 + 1 + 1)) = o + j by omega] at this
       · rw [List.getElem?_append_right (by omega)] at hj
         have := h2 _ u hj
         rwa [show o + 10 + (j - (0 + 1 + 1 + 1) - ds.length) = o + j by omega] at this
   · simp only [List.mem_append, List.mem_cons, List.not_mem_nil, or_false] at hu
     rcases hu with (rfl | rfl | rfl) | hu | hu
     all_goals first | rfl | exact d3 u hu | exact h3 u hu
def PcsC (w : World) (ad : Option Addr) (l : List Pc) (cs : List Value) : Prop := cs.length = l.length * 10 ∧ (∀ (j : Nat) u, cs[j]? = some u → ∃ b o, ad = some ⟨b, o, none⟩ ∧ b < w.heap.size ∧ w.cell? ⟨b, o + j, none⟩ = some u) ∧ ∀ u ∈ cs, u.oneCell' = true
theorem Pcs.cells {ok : Nat → Prop} {w : World} {ad : Option Addr} {m c : Nat} {l : List Pc} (h : Pcs ok w (.slice ad m c) l) : ∃ cs, PcsC w ad l cs := by
 obtain ⟨a', c', he, h1, h2, h3⟩ := h
 cases he
 cases l with
 | nil => exact ⟨[], rfl, fun j u h => by simp at h, fun u h => by cases h⟩
 | cons p r =>
   obtain ⟨b, o, rfl, -, hrow⟩ := h3 (by simp)
   obtain ⟨cs, q1, q2, q4⟩ := RowP.cells _ _ _ hrow
   exact ⟨cs, q1, fun j u hj => ⟨b, o, rfl, lt_of_cell hrow.1.1, q2 j u hj⟩, q4⟩
theorem PcsC.kept {w w' : World} {ad : Option Addr} {l : List Pc} {cs : List Value} (h : PcsC w ad l cs) (hb : Below w.heap.size w w') : PcsC w' ad l cs :=
 ⟨h.1, fun j u hj => by
  obtain ⟨b, o, h1, h2, h3⟩ := h.2.1 j u hj
  exact ⟨b, o, h1, Nat.lt_of_lt_of_le h2 hb.size, (hb.cell (p := ⟨b, _, none⟩) h2).trans h3⟩, h.2.2⟩
theorem pcs_rep {ok : Nat → Prop} {w : World} {B c n : Nat} {ad : Option Addr} {v : Value} {l : List Pc} {cs : List Value} (hl : Pcs ok w (.slice ad l.length c) l) (hc : PcsC w ad l cs) (hok : ∀ b, ok b → b < w.heap.size) (h : w.ownsRow B 44 10 v (n * l.length) (repL cs n)) : Pcs (· < w.heap.size) w v (repL l n) := by
 obtain ⟨a, c', rfl, h3, h4, h5⟩ := own_elems h
 refine ⟨a, c', by rw [repL_len], by rw [repL_len]; exact h3, h4, fun hne => ?_⟩
 have hcl := hc.1
 have hne2 : repL cs n ≠ [] := by
  intro e
  have h1 := congrArg List.length e
  rw [repL_len, hcl] at h1
  apply hne
  apply List.length_eq_zero_iff.1
  rw [repL_len]
  simp only [List.length_nil] at h1
  rcases Nat.mul_eq_zero.1 h1 with h | h
  · rw [h, Nat.zero_mul]
  · rw [show l.length = 0 by omega, Nat.mul_zero]
 obtain ⟨g, rfl, hg1, hg2, hgc⟩ := h5 hne2
 refine ⟨g, 0, rfl, hg2, ?_⟩
 have hl2 : l ≠ [] := by
  rintro rfl
  apply hne
  apply List.length_eq_zero_iff.1
  rw [repL_len, List.length_nil, Nat.mul_zero]
 obtain ⟨_, _, he, -, -, h7⟩ := hl
 cases he
 obtain ⟨b, o, rfl, hb, hrow⟩ := h7 hl2
 have key : ∀ k, k ≤ n → RowP (· < w.heap.size) w (repL l k) g 0 := by
  intro k
  induction k with
  | zero => intro _; exact trivial
  | succ k ih =>
    intro hk
    refine RowP.append _ _ _ _ (ih (by omega)) ?_
    rw [repL_len]
    refine RowP.move (fun b hb => ⟨hok b hb, rfl⟩) _ b o g _ (fun j hj => ?_) hrow
    have hj2 : j < cs.length := by omega
    obtain ⟨b', o', he, -, hcell⟩ := hc.2.1 j _ (List.getElem?_eq_getElem hj2)
    cases he
    rw [hcell, Nat.zero_add]
    refine hgc _ _ ?_
    obtain ⟨d, rfl⟩ : ∃ d, n = k + 1 + d := ⟨n - (k + 1), by omega⟩
    have hpre : ∀ d, (repL cs (k + 1 + d))[10 * (k * l.length) + j]? = (repL cs (k + 1))[10 * (k * l.length) + j]? := by
     intro d
     induction d with
     | zero => rfl
     | succ d ihd =>
       rw [show k + 1 + (d + 1) = (k + 1 + d) + 1 by omega, repL, List.getElem?_append_left, ihd]
       rw [repL_len, hcl]
       have : (k + 1 + d) * (l.length * 10) = k * l.length * 10 + l.length * 10 + d * (l.length * 10) := by rw [Nat.add_mul, Nat.add_mul, Nat.one_mul, Nat.mul_assoc]
       omega
    have e1 : k * (l.length * 10) = 10 * (k * l.length) := by rw [← Nat.mul_assoc, Nat.mul_comm]
    rw [hpre d, repL, List.getElem?_append_right (by rw [repL_len, hcl, e1]; omega), repL_len, hcl, e1, Nat.add_sub_cancel_left, List.getElem?_eq_getElem hj2]
 exact key n (Nat.le_refl _)
def RtSaid (n : Nat) : Prop := ∀ (x : Pt), x.cnt < n → ∀ (ok : Nat → Prop) (v : Value) (w : World), x.wf → x.len ≤ 140737488351232 → Parts ok w v x →
 Calls Tryz.prog 23 #[v] w fun e w' => e = .returned (.bool (rootF x)) ∧ Below w.heap.size w w'
set_option maxRecDepth 100000 in
set_option maxHeartbeats 8000000 in
theorem rt_step (n : Nat) (ih : RtSaid n) : RtSaid (n + 1) := by
 intro x hn ok v w hwf hlx hx
 obtain ⟨a, c, rfl, h1, h2, h3⟩ := hx.lt
 have HX : Hid (Rest ok a w x 0) := fun hne => by
  obtain ⟨b, o, q1, q2, q3⟩ := h3 hne
  exact ⟨b, o, q1, q2, by rw [Nat.zero_mul, Nat.add_zero]; exact q3⟩
 have HW := Lib.hid hwf
 have IH := Lib.hid ih
 clear h3 hx h1 h2 ih hwf
 go_enter Tryz.func23, Tryz.ntmps23
 go_wp2_with fail
 go_loopw [3] (fun i wr => ∃ (k : Nat) (r : Pt), i = .int .i64 (k : Nat) ∧ k + r.len = x.len ∧ Hid (Rest ok a w r k) ∧ r.cnt ≤ x.cnt ∧ Hid r.wf ∧ Hid (rootF r = rootF x) ∧ Hid (Below w.heap.size w wr)) (fun i _ => x.len - (intOf i).toNat)
 case atStart => exact ⟨0, x, rfl, by omega, HX, Nat.le_refl _, HW, rfl, Below.refl _ _⟩
 case round =>
  obtain ⟨k, r, rfl, hk, HR, hcn, HF, HE, HB⟩ := hrel
  cases r with
  | nil =>
    simp only [Pt.len] at hk
    have hge : ¬ (k : Int) < (x.len : Int) := by omega
    have HE2 : Hid (rootF x = false) := by unfold Hid; rw [← HE.out]; rfl
    go_wp2_with fail
    go_ret
    exact ⟨by rw [HE2.out]; rfl, HB.out⟩
  | cons h kd el r =>
    simp only [Pt.len] at hk
    simp only [Pt.cnt] at hcn
    have hkt : (k : Int) < (x.len : Int) := by omega
    have hk0 : (0 : Int) ≤ (k : Int) := by omega
    obtain ⟨hwh, hwk, hwe, hwr, hlk, hle⟩ := HF.out
    have HWR := Lib.hid hwr
    obtain ⟨b, o, rfl, hb, hrow⟩ := HR.out (by simp)
    have HRS : Hid (Rest ok (some ⟨b, o, none⟩) w r (k + 1)) := fun _ => ⟨b, o, rfl, hb, by have := hrow.2.2.2; rwa [show o + k * 8 + 8 = o + (k + 1) * 8 by omega] at this⟩
    obtain ⟨⟨-, -, -, g3, -, -⟩, ⟨ak, ck, g6, k1, k2, k3⟩, ⟨ae, ce, g7, e1, e2, e3⟩, -⟩ := hrow
    have hsw := HB.out.size
    have KC : Hid (∀ W, Below w.heap.size w W → Calls Tryz.prog 23 #[.slice ak kd.len ck] W fun e w' => e = .returned (.bool (rootF kd)) ∧ Below W.heap.size W w') := fun W hW =>
     IH.out kd (by omega) (fun b => ok b ∧ b < w.heap.size) _ W hwk hlk (Parts.kept ⟨ak, ck, rfl, k1, k2, k3⟩ (fun b hb => hW.block b hb.2))
    have EC : Hid (∀ W, Below w.heap.size w W → Calls Tryz.prog 23 #[.slice ae el.len ce] W fun e w' => e = .returned (.bool (rootF el)) ∧ Below W.heap.size W w') := fun W hW =>
     IH.out el (by omega) (fun b => ok b ∧ b < w.heap.size) _ W hwe hle (Parts.kept ⟨ae, ce, rfl, e1, e2, e3⟩ (fun b hb => hW.block b hb.2))
    have HC : Hid (∀ W, Below w.heap.size w W → W.cell? ⟨b, o + k * 8 + 3, none⟩ = some (.bool h.root) ∧ W.cell? ⟨b, o + k * 8 + 6, none⟩ = some (.slice ak kd.len ck) ∧ W.cell? ⟨b, o + k * 8 + 7, none⟩ = some (.slice ae el.len ce)) := fun W hW =>
     ⟨(hW.cell (p := ⟨b, _, none⟩) hb.2).trans g3, (hW.cell (p := ⟨b, _, none⟩) hb.2).trans g6, (hW.cell (p := ⟨b, _, none⟩) hb.2).trans g7⟩
    have HEQ := Lib.hid HE.out
    have HKI := Lib.hid hk
    clear k3 e3 g3 g6 g7 hk hwk hwe hwr hwh
    obtain ⟨c3, c6, c7⟩ := HC.out wr HB.out
    cases hrt : h.root with
    | true =>
      rw [hrt] at c3
      have HE2 : Hid (rootF x = true) := by unfold Hid; rw [← HE.out]; simp [rootF, hrt]
      go_wp2_with fail
      go_ret
      exact ⟨by rw [HE2.out]; rfl, HB.out⟩
    | false =>
      rw [hrt] at c3
      go_wp2_with fail
      refine (KC.out wr HB.out).mono ?_
      rintro e w2 ⟨rfl, hb2⟩
      have HB2 : Hid (Below w.heap.size w w2) := HB.out.trans (hb2.mono hsw)
      obtain ⟨-, d6, d7⟩ := HC.out w2 HB2.out
      clear hb2 c3 c6 c7
      cases hrk : rootF kd with
      | true =>
        have HE2 : Hid (rootF x = true) := by unfold Hid; rw [← HE.out]; simp [rootF, hrk]
        go_wp2_with fail
        go_ret
        exact ⟨by rw [HE2.out]; rfl, HB2.out⟩
      | false =>
        go_wp2_with fail
        refine (EC.out w2 HB2.out).mono ?_
        rintro e w3 ⟨rfl, hb3⟩
        have HB3 : Hid (Below w.heap.size w w3) := HB2.out.trans (hb3.mono HB2.out.size)
        clear hb3 d6 d7
        cases hre : rootF el with
        | true =>
          have HE2 : Hid (rootF x = true) := by unfold Hid; rw [← HE.out]; simp [rootF, hre]
          go_wp2_with fail
          go_ret
          exact ⟨by rw [HE2.out]; rfl, HB3.out⟩
        | false =>
          have HE3 : Hid (rootF r = rootF x) := by unfold Hid; rw [← HE.out]; simp [rootF, hrt, hrk, hre]
          go_wp2_with fail
          go_roundw
          case rel => exact ⟨k + 1, r, by go_num, by have := HKI.out; omega, HRS, by omega, HWR, HE3, HB3⟩
          case measure => simp [intOf]; have := HKI.out; omega
theorem rt_all (n : Nat) : RtSaid n := by
 induction n with
 | zero => intro x h; exact absurd h (Nat.not_lt_zero _)
 | succ n ih => exact rt_step n ih
theorem rooted_calls (x : Pt) (ok : Nat → Prop) (v : Value) (w : World) (hwf : x.wf) (hl : x.len ≤ 140737488351232) (hx : Parts ok w v x) : Calls Tryz.prog 23 #[v] w fun e w' => e = .returned (.bool (rootF x)) ∧ Below w.heap.size w w' :=
 rt_all (x.cnt + 1) x (Nat.lt_succ_self _) ok v w hwf hl hx
theorem wq_app : ∀ x y : Pt, wq (x.app y) = wq x + wq y
 | .nil, y => by simp [Pt.app, wq]
 | .cons h k e r, y => by simp only [Pt.app, wq, wq_app r y]; omega
theorem wf_app : ∀ x y : Pt, x.wf → y.wf → (x.app y).wf
 | .nil, y, _, hy => hy
 | .cons h k e r, y, ⟨h1, h2, h3, h4, h5, h6⟩, hy => ⟨h1, h2, h3, wf_app r y h4 hy, h5, h6⟩
def twT (t : Tm) : Tm := ⟨t.main.app t.main, t.defs⟩
theorem twT_w {t : Tm} (hw : TmW t) (h : wtT t ≤ 2048) : TmW (twT t) ∧ TmZ (twT t) := by
 have hl : (t.main.app t.main).len = t.main.len + t.main.len := Pt.len_app _ _
 have hq := wq_app t.main t.main
 have hwt : wtT (twT t) ≤ 4096 := by unfold wtT wt at h ⊢; simp only [twT, hl, hq]; omega
 have hw2 : TmW (twT t) := ⟨⟨wf_app _ _ hw.main.1 hw.main.1, by unfold wtT wt at h; simp only [twT, hl]; omega⟩, hw.len, hw.defs⟩
 exact ⟨hw2, tmZ_of _ hw2 (by omega)⟩
def nmN : ByteArray := ⟨#[110]⟩
def hdR : Hd := ⟨4, 0, ⟨#[]⟩, false, [nmN], ⟨#[]⟩⟩
def rgT (t : Tm) : Tm := ⟨.cons hdR t.main .nil .nil, t.defs⟩
theorem hdR_wf : hdR.wf := ⟨by decide, by decide, by decide, by decide, by decide, by decide, fun n hn => by rw [List.mem_singleton.1 hn]; decide⟩
theorem rgT_w {t : Tm} (hw : TmW t) (h : wtT t ≤ 2048) : TmW (rgT t) ∧ TmZ (rgT t) := by
 have hwt : wtT (rgT t) ≤ 4096 := by
  have h2 : Go.Proofs.YtepcpgdfbaklfaaGreatDoor.hw hdR = 2 := by decide
  unfold wtT wt at h ⊢
  simp only [rgT, wq, h2, Pt.len]
  omega
 have hw2 : TmW (rgT t) := ⟨⟨⟨hdR_wf, hw.main.1, trivial, trivial, hw.main.2, by decide⟩, by show (0 + 1 : Nat) ≤ _; decide⟩, hw.len, hw.defs⟩
 exact ⟨hw2, tmZ_of _ hw2 (by omega)⟩
theorem repV_sm {v : Va} (hs : Va.sm v) : ∀ n, smX (repV v n) ∧ cntX (repV v n) = n * (1 + cntX v.items)
 | 0 => ⟨trivial, by simp [repV, cntX]⟩
 | n + 1 => by
   obtain ⟨h1, h2⟩ := repV_sm hs n
   exact ⟨⟨hs.1, hs.2.1, h1⟩, by simp only [repV, cntX, h2, Nat.add_mul]; omega⟩
theorem cnt_weight {v : Va} (hw : wvF 2048 v ≤ 2048) : cntX v.items ≤ 2048 := by
 have h1 := wvF_eq v 2048 hw
 have h2 : wgX (.cons v.h v.items .nil) ≤ 2048 := by rw [← h1]; exact hw
 have h3 := cnt_le_wgX (.cons v.h v.items .nil)
 simp only [cntX] at h3
 omega
theorem rng_sm {v : Va} (hs : Va.sm v) (hc : cntX v.items ≤ 2048) (n : Nat) (hn : n ≤ 9) : Va.sm (rngV nmN v n) := by
 obtain ⟨h1, h2⟩ := repV_sm hs n
 have h3 : n * (1 + cntX v.items) ≤ 9 * 2049 := Nat.mul_le_mul hn (by omega)
 refine ⟨⟨(by decide : 7 < 256), (by decide : (-9223372036854775808 : Int) ≤ 0), (by decide : (0 : Int) ≤ 9223372036854775807), (by decide : 0 < 18446744073709551616), (by decide : ByteArray.empty.size ≤ 16777216), (by decide : [nmN].length ≤ 16777216), fun n hn => by rw [List.mem_singleton.1 hn]; decide⟩, ⟨⟨(by decide : 6 < 256), (by decide : (-9223372036854775808 : Int) ≤ 0), (by decide : (0 : Int) ≤ 9223372036854775807), (by decide : 0 < 18446744073709551616), (by decide : ByteArray.empty.size ≤ 16777216), (by decide : ([] : List ByteArray).length ≤ 16777216), fun n hn => by cases hn⟩, h1, trivial⟩, ?_⟩
 show 1 + cntX (repV v n) + 0 ≤ _
 omega
theorem repV_len (v : Va) : ∀ n, (repV v n).len = n
 | 0 => rfl
 | n + 1 => by simp only [repV, Vl.len, repV_len v n]
theorem repV_snoc (v : Va) : ∀ n, Vl.app (repV v n) (.cons v.h v.items .nil) = repV v (n + 1)
 | 0 => rfl
 | n + 1 => by
   show Vl.cons v.h v.items (Vl.app (repV v n) _) = _
   rw [repV_snoc v n]
   rfl
theorem pcs_old {w w3 w4 : World} {v : Value} {l : List Pc} (h : Pcs (Nu w.heap.size w3) w3 v l) (hb : Below w3.heap.size w3 w4) : Pcs (· < w4.heap.size) w4 v l :=
 (h.kept (fun b hb' => hb.block b hb'.2.1)).mono fun b hb' => Nat.lt_of_lt_of_le hb'.2.1 hb.size
def OwT (B : Nat) (w0 : World) (n : Nat) (cs : List Value) (v : Value) (w : World) : Prop := w.ownsRow B 56 8 v n cs ∧ Below B w0 w
theorem app_pts {B n m c : Nat} {w0 W : World} {v : Value} {xs cs : List Value} {ad : Option Addr} (hown : W.ownsRow B 56 8 v n xs) (hB : Below B w0 W) (hBs : B ≤ W.heap.size) (hl : cs.length = m * 8) (hc : ∀ (j : Nat) u, cs[j]? = some u → ∃ b o, ad = some ⟨b, o, none⟩ ∧ W.cell? ⟨b, o + j, none⟩ = some u) (h1 : ∀ u ∈ cs, u.oneCell' = true) (hnm : n + m ≤ 16777216) :
 ∀ ty, ∃ v' w', (Builtin.append_ #[22, 22] ty #[v, .slice ad m c]).run Tryz.prog W = .ok v' w' ∧ OwT B w0 (n + m) (xs ++ cs) v' w' := fun ty => by
 obtain ⟨i0, hi, hz0, hz1, hz2⟩ := info_parts infoPart
 obtain ⟨v', w', q1, q2, q3⟩ := run_app_row 22 56 i0 _ 8 128 Tryz.underlying22 hi hz0 hz1 hz2 (by rfl) (by decide) W ty B v n xs hown ad m c cs hl hc h1 (by unfold maxLen; omega) (by omega) hBs
 exact ⟨v', w', q1, q2, hB.trans ((Below.refl B W).grown q3 hBs (fun k hk => (World.ownsRow.lt hown k hk).1))⟩
def OwP (B : Nat) (w0 : World) (n : Nat) (cs : List Value) (v : Value) (w : World) : Prop := w.ownsRow B 44 10 v n cs ∧ Below B w0 w
theorem app_pcs {B n c : Nat} {w0 W : World} {v : Value} {xs cs : List Value} {ad : Option Addr} {l : List Pc} (hown : W.ownsRow B 44 10 v n xs) (hB : Below B w0 W) (hBs : B ≤ W.heap.size) (hc : PcsC W ad l cs) (hnm : n + l.length ≤ 16777216) :
 ∀ ty, ∃ v' w', (Builtin.append_ #[36, 36] ty #[v, .slice ad l.length c]).run Tryz.prog W = .ok v' w' ∧ OwP B w0 (n + l.length) (xs ++ cs) v' w' := fun ty => by
 obtain ⟨i0, hi, hz0, hz1, hz2⟩ := info_parts infoPiece
 obtain ⟨v', w', q1, q2, q3⟩ := run_app_row 36 44 i0 _ 10 120 Tryz.underlying36 hi hz0 hz1 hz2 (by rfl) (by decide) W ty B v n xs hown ad l.length c cs hc.1 (fun j u hj => by obtain ⟨b, o, e1, -, e3⟩ := hc.2.1 j u hj; exact ⟨b, o, e1, e3⟩) hc.2.2 (by unfold maxLen; omega) (by omega) hBs
 exact ⟨v', w', q1, q2, hB.trans ((Below.refl B W).grown q3 hBs (fun k hk => (World.ownsRow.lt hown k hk).1))⟩
def ItR (X m : Nat) (v : Va) (w0 w : World) (k : Nat) : Prop := Below X w0 w ∧ w.heap.size = w0.heap.size ∧ UnF w X ∧ (∀ j, j < m * 7 → ∃ u, w.cell? ⟨X, j, none⟩ = some u) ∧ RowX (· < X) w (repV v k) X 0
set_option maxRecDepth 100000 in
set_option maxHeartbeats 40000000 in
theorem evalTwice_walk (t : Tm) (ht : TmW t) (v : Va) (hv : Va.wf v) (am ad a1 a2 : Option Addr) (cm cd c1 c2 : Nat) (w : World) (hg : Gd w) (hp : Parts (· < w.heap.size) w (.slice am t.main.len cm) t.main) (hd : Defs (· < w.heap.size) w (.slice ad t.defs.length cd) t.defs) (hx : ValS (· < w.heap.size) w v a1 c1 a2 c2) (n : Int) :
 Calls Tryz.prog 6 #[.agg #[.slice am t.main.len cm, .slice ad t.defs.length cd], .agg #[.int .u8 (v.h.kind : Nat), .bool v.h.b, .int .i64 v.h.n, .int .u64 (v.h.bits : Nat), .string v.h.text, .slice a1 v.h.keys.length c1, .slice a2 v.items.len c2], .int .i64 n] w fun e w' => e = .returned (.bool true) ∧ Below w.heap.size w w' := by
 have WC : Hid (∀ W, Below w.heap.size w W → Calls Tryz.prog 8 #[] W fun e w' => e = .returned (.bool true) ∧ Below W.heap.size W w') := fun W hW => works_calls W (hg.belowB hg.glB hW)
 have FC : Hid (∀ W, Below w.heap.size w W → Calls Tryz.prog 9 #[.agg #[.slice am t.main.len cm, .slice ad t.defs.length cd], .agg #[.int .u8 (v.h.kind : Nat), .bool v.h.b, .int .i64 v.h.n, .int .u64 (v.h.bits : Nat), .string v.h.text, .slice a1 v.h.keys.length c1, .slice a2 v.items.len c2]] W (FarR t v W)) := fun W hW => far_calls t ht v hv am ad a1 a2 cm cd c1 c2 W ((hp.kept (Kept.of_below hW)).mono (fun b hb => Nat.lt_of_lt_of_le hb hW.size)) ((hd.kept (Kept.of_below hW)).mono (fun b hb => Nat.lt_of_lt_of_le hb hW.size)) ((hx.kept (Kept.of_below hW)).mono (fun b hb => Nat.lt_of_lt_of_le hb hW.size))
 have RC : Hid (∀ (hz : TmZ t) (hs : Va.sm v) W (fuel calls : Int), Below w.heap.size w W → Calls Tryz.prog 12 #[.agg #[.slice am t.main.len cm, .slice ad t.defs.length cd], .agg #[.int .u8 (v.h.kind : Nat), .bool v.h.b, .int .i64 v.h.n, .int .u64 (v.h.bits : Nat), .string v.h.text, .slice a1 v.h.keys.length c1, .slice a2 v.items.len c2], .int .i64 fuel, .int .i64 calls] W (RunR (Ev.runT t v fuel calls) W)) := fun hz hs W fuel calls hW => run_calls t hz v hs fuel calls am ad a1 a2 cm cd c1 c2 W (hg.belowB hg.glB hW) ((hp.kept (Kept.of_below hW)).mono (fun b hb => Nat.lt_of_lt_of_le hb hW.size)) ((hd.kept (Kept.of_below hW)).mono (fun b hb => Nat.lt_of_lt_of_le hb hW.size)) ((hx.kept (Kept.of_below hW)).mono (fun b hb => Nat.lt_of_lt_of_le hb hW.size))
 have HTW := Lib.hid ht
 have HVW := Lib.hid hv
 have GW : Hid (∀ W, Below w.heap.size w W → Gd W) := fun W hW => hg.belowB hg.glB hW
 have HPM := Lib.hid hp
 have HPD := Lib.hid hd
 have HXV := Lib.hid hx
 clear hp hd hx ht hv hg
 have HT : Hid (∀ W0, ((w.alloc (.cells #[.slice am t.main.len cm, .slice ad t.defs.length cd] 25)).alloc (.cells #[.int .u8 (v.h.kind : Nat), .bool v.h.b, .int .i64 v.h.n, .int .u64 (v.h.bits : Nat), .string v.h.text, .slice a1 v.h.keys.length c1, .slice a2 v.items.len c2] 31)) = W0 → Below w.heap.size w W0 ∧ W0.heap.size = w.heap.size + 2 ∧ W0.heap[w.heap.size]? = some (.cells #[.slice am t.main.len cm, .slice ad t.defs.length cd] 25 (0, 0)) ∧ W0.heap[w.heap.size + 1]? = some (.cells #[.int .u8 (v.h.kind : Nat), .bool v.h.b, .int .i64 v.h.n, .int .u64 (v.h.bits : Nat), .string v.h.text, .slice a1 v.h.keys.length c1, .slice a2 v.items.len c2] 31 (0, 0))) := by
  rintro W0 rfl
  have n0 := heap_alloc_new w (.cells #[.slice am t.main.len cm, .slice ad t.defs.length cd] 25)
  have n1 := heap_alloc_new (w.alloc (.cells #[.slice am t.main.len cm, .slice ad t.defs.length cd] 25)) (.cells #[.int .u8 (v.h.kind : Nat), .bool v.h.b, .int .i64 v.h.n, .int .u64 (v.h.bits : Nat), .string v.h.text, .slice a1 v.h.keys.length c1, .slice a2 v.items.len c2] 31)
  simp only [World.size_alloc] at n1
  exact ⟨((Below.refl _ w).alloc (Nat.le_refl _) _).alloc (by simp) _, by simp, (Below.heap_alloc _ _ _ (by simp)).trans n0, n1⟩
 go_enter Tryz.func6, Tryz.ntmps6
 go_upto_region 1 with (fail)
 try simp only [Nat.add_assoc, Nat.reduceAdd]
 generalize hWW : World.alloc (World.alloc w _) _ = w0 at *
 obtain ⟨hb0, hz0, ht0, hv0⟩ := HT.out w0 rfl
 clear hWW HT
 have HB0 := Lib.hid hb0
 have HT0 := Lib.hid ht0
 have HV0 := Lib.hid hv0
 clear hb0 ht0 hv0
 go_wp2_with fail
 refine (WC.out w0 HB0.out).mono ?_
 rintro e w1 ⟨rfl, hb1⟩
 have HB1 : Hid (Below w.heap.size w w1) := HB0.out.trans (hb1.mono (by omega))
 have hz1 : w.heap.size + 2 ≤ w1.heap.size := by have := hb1.size; omega
 have HT1 := Lib.hid ((hb1.block _ (by omega)).trans HT0.out)
 have HV1 := Lib.hid ((hb1.block _ (by omega)).trans HV0.out)
 clear hb1 hz0
 have t0 : w1.cell? ⟨w.heap.size, 0, none⟩ = some (.slice am t.main.len cm) := by rw [cell_of_heap' HT1.out]; rfl
 have t1 : w1.cell? ⟨w.heap.size, 1, none⟩ = some (.slice ad t.defs.length cd) := by rw [cell_of_heap' HT1.out]; rfl
 obtain ⟨v0, v1, v2, v3, v4, v5, v6⟩ := xcCs (h := v.h) HV1.out
 go_wp2_with fail
 refine (FC.out w1 HB1.out).mono ?_
 rintro e w2 ⟨fb, rfl, hfb, hb2⟩
 have HFB := Lib.hid hfb
 clear hfb
 have HB2 : Hid (Below w.heap.size w w2) := HB1.out.trans (hb2.mono (by omega))
 have hz2 : w.heap.size + 2 ≤ w2.heap.size := by have := hb2.size; omega
 have HT2 := Lib.hid ((hb2.block _ (by omega)).trans HT1.out)
 have HV2 := Lib.hid ((hb2.block _ (by omega)).trans HV1.out)
 clear hb2 hz1 t0 t1 v0 v1 v2 v3 v4 v5 v6
 cases fb with
 | true =>
   go_wp2_with fail
   go_ret
   exact ⟨rfl, HB2.out⟩
 | false =>
 have hsz := HFB.out rfl
 have HSV := Lib.hid (Va.wf_sm HVW.out hsz.2)
 have HTZ := Lib.hid (tmZ_of t HTW.out (by omega))
 have HUW := Lib.hid (twT_w HTW.out hsz.1)
 have HRW := Lib.hid (rgT_w HTW.out hsz.1)
 have HCW := Lib.hid (cnt_weight hsz.2)
 have HML : Hid (t.main.len ≤ 2048) := by have := hsz.1; unfold wtT wt at this; unfold Hid; omega
 clear hsz HFB
 by_cases hgc : n < 0
 · have hgd : decide (n < 0) = true := decide_eq_true hgc
   go_wp2_with fail
   go_ret
   exact ⟨rfl, HB2.out⟩
 have hgd0 : decide (n < 0) = false := decide_eq_false hgc
 replace hgc := Lib.hid hgc
 have HGC0 := hgc
 clear hgc
 by_cases hgc : (9 : Int) < n
 · have hgd : decide ((9 : Int) < n) = true := decide_eq_true hgc
   go_wp2_with fail
   go_ret
   exact ⟨rfl, HB2.out⟩
 have hgd1 : decide ((9 : Int) < n) = false := decide_eq_false hgc
 replace hgc := Lib.hid hgc
 have HGC1 := hgc
 clear hgc
 obtain ⟨m, rfl⟩ : ∃ m : Nat, n = (m : Int) := ⟨n.toNat, by have := HGC0.out; omega⟩
 have hm9 : m ≤ 9 := by have := HGC1.out; omega
 clear HGC0 HGC1
 have HOA := Lib.hid (run_out HTW.out HSV.out 300 9)
 obtain ⟨⟨la, ea, pa⟩, hra⟩ : ∃ r, Ev.runT t v 300 9 = r := ⟨_, rfl⟩
 have HRA := Lib.hid hra
 rw [hra] at HOA
 dsimp only at HOA
 have t0 : w2.cell? ⟨w.heap.size, 0, none⟩ = some (.slice am t.main.len cm) := by rw [cell_of_heap' HT2.out]; rfl
 have t1 : w2.cell? ⟨w.heap.size, 1, none⟩ = some (.slice ad t.defs.length cd) := by rw [cell_of_heap' HT2.out]; rfl
 obtain ⟨v0, v1, v2, v3, v4, v5, v6⟩ := xcCs (h := v.h) HV2.out
 go_upto_region 7 with (fail)
 clear hgd0 hgd1
 have R1 := Lib.hid (RC.out HTZ.out HSV.out w2 300 9 HB2.out)
 go_wp2_with fail
 refine R1.out.mono ?_
 rw [hra]
 rintro e w3 ⟨hb3, aa, ca, rfl, hpa⟩
 have HPA := Lib.hid (pcs_old hpa (Below.refl _ _))
 dsimp only at HPA
 clear hpa R1 hra RC
 have HB3 : Hid (Below w.heap.size w w3) := HB2.out.trans (hb3.mono (by omega))
 have hz3 : w.heap.size + 2 ≤ w3.heap.size := by have := hb3.size; omega
 have HT3 := Lib.hid ((hb3.block _ (by omega)).trans HT2.out)
 have HV3 := Lib.hid ((hb3.block _ (by omega)).trans HV2.out)
 clear hb3 hz2 t0 t1 v0 v1 v2 v3 v4 v5 v6
 have hw3 : w.heap.size + 2 ≤ w3.heap.size := hz3
 have t0 : w3.cell? ⟨w.heap.size, 0, none⟩ = some (.slice am t.main.len cm) := by rw [cell_of_heap' HT3.out]; rfl
 have t1 : w3.cell? ⟨w.heap.size, 1, none⟩ = some (.slice ad t.defs.length cd) := by rw [cell_of_heap' HT3.out]; rfl
 have HA3 : Hid (Below w3.heap.size w3 (w3.alloc (.cells #[.slice am t.main.len cm, .slice ad t.defs.length cd] 25))) := (Below.refl _ w3).alloc (Nat.le_refl _) _
 have HU4 : Hid ((w3.alloc (.cells #[.slice am t.main.len cm, .slice ad t.defs.length cd] 25)).heap[w3.heap.size]? = some (.cells #[.slice am t.main.len cm, .slice ad t.defs.length cd] 25 (0, 0))) := heap_alloc_new w3 _
 have HS4 : Hid ((w3.alloc (.cells #[.slice am t.main.len cm, .slice ad t.defs.length cd] 25)).heap.size = w3.heap.size + 1) := by unfold Hid; simp
 go_upto_region 9 with (fail)
 clear t0 t1
 generalize hWW : World.alloc w3 _ = w4 at *
 clear hWW
 have HB4 : Hid (Below w.heap.size w w4) := HB3.out.trans (HA3.out.mono (by omega))
 have hz4 : w4.heap.size = w3.heap.size + 1 := HS4.out
 have HT4 := Lib.hid ((HA3.out.block _ (by omega)).trans HT3.out)
 have HV4 := Lib.hid ((HA3.out.block _ (by omega)).trans HV3.out)
 have HPA4 : Hid (Pcs (· < w3.heap.size) w4 (.slice aa la.length ca) la) := HPA.out.kept (fun b hb => HA3.out.block b hb)
 obtain ⟨-, cs, hcl, hcc, hcr, hc1⟩ := Parts.cells HPM.out
 have HCC := Lib.hid hcc
 have HCR := Lib.hid hcr
 have HCL := Lib.hid hcl
 have HC1 := Lib.hid hc1
 clear hcl hcc hcr hc1 HS4 HA3 HPA hz3
 have HCW4 : Hid (∀ W, Below w4.heap.size w4 W → ∀ (j : Nat) u, cs[j]? = some u → ∃ b o, am = some ⟨b, o, none⟩ ∧ W.cell? ⟨b, o + j, none⟩ = some u) := fun W hW j u hj => by
  obtain ⟨b, o, e1, e2, e3⟩ := HCC.out j u hj
  exact ⟨b, o, e1, ((HB4.out.trans (hW.mono (by omega))).cell (p := ⟨b, _, none⟩) e2).trans e3⟩
 have HR1 : Hid (∀ W, Below w4.heap.size w4 W → ∀ ty, ∃ v' w', (Builtin.append_ #[22, 22] ty #[.slice none 0 0, .slice am t.main.len cm]).run Tryz.prog W = .ok v' w' ∧ OwT w4.heap.size w4 (0 + t.main.len) ([] ++ cs) v' w') := fun W hW =>
  app_pts (World.ownsRow_nil _ _ _ _) hW hW.size HCL.out (HCW4.out W hW) HC1.out (by have := HML.out; omega)
 have HR2 : Hid (∀ W v5, OwT w4.heap.size w4 (0 + t.main.len) ([] ++ cs) v5 W → ∀ ty, ∃ v' w', (Builtin.append_ #[22, 22] ty #[v5, .slice am t.main.len cm]).run Tryz.prog W = .ok v' w' ∧ OwT w4.heap.size w4 (0 + t.main.len + t.main.len) (([] ++ cs) ++ cs) v' w') := fun W v5 h =>
  app_pts h.1 h.2 h.2.size HCL.out (HCW4.out W h.2) HC1.out (by have := HML.out; omega)
 have t0 : w4.cell? ⟨w.heap.size, 0, none⟩ = some (.slice am t.main.len cm) := by rw [cell_of_heap' HT4.out]; rfl
 have HD4 : Hid (Below w4.heap.size w4 w4.drew) := ⟨rfl, rfl, rfl, Nat.le_refl _, fun _ _ => rfl⟩
 have HTN : Hid (∀ W, Below w4.heap.size w4 W → W.cell? ⟨w.heap.size, 0, none⟩ = some (.slice am t.main.len cm)) := fun W hW => (hW.cell (p := ⟨w.heap.size, 0, none⟩) (show w.heap.size < w4.heap.size by omega)).trans t0
 have HUN : Hid (∀ W, Below w4.heap.size w4 W → W.heap[w3.heap.size]? = some (.cells #[.slice am t.main.len cm, .slice ad t.defs.length cd] 25 (0, 0))) := fun W hW => (hW.block _ (by omega)).trans HU4.out
 apply merge7 (fun (a5 : Option Addr) (n5 c5 : Nat) (w6 : World) (a6 : Option Addr) (n6 c6 : Nat) => Hid (OwT w4.heap.size w4 (0 + t.main.len + t.main.len) (([] ++ cs) ++ cs) (.slice a6 n6 c6) w6))
 case h =>
  intro KEY
  go_region_law (first | (refine step_row (by rfl) _ _ 22 (by rfl) (.slice none 0 0) (.slice am t.main.len cm) (by rfl) (by rfl) _ (HR1.out _ HD4.out) ?_; rintro v5 w5 ho5; obtain ⟨a5, n5, c5, rfl⟩ := own_shp ho5.1; have HO5 := Lib.hid ho5; clear ho5; have t05 := HTN.out w5 HO5.out.2) | (refine step_row (by rfl) _ _ 22 (by rfl) (.slice a5 n5 c5) (.slice am t.main.len cm) (by rfl) (by rfl) _ (HR2.out w5 _ HO5.out) ?_; rintro v6 w6 ho6; obtain ⟨a6, n6, c6, rfl⟩ := own_shp ho6.1; have HO6 := Lib.hid ho6; clear ho6; have u06 : w6.cell? ⟨w3.heap.size, 0, none⟩ = some (.slice am t.main.len cm) := (by rw [cell_of_heap' (HUN.out w6 HO6.out.2)]; rfl); have uz6 : w6.frozen? ⟨w3.heap.size, 0, none⟩ = false := frozen_cells (HUN.out w6 HO6.out.2) 0))
  all_goals exact KEY a5 n5 c5 w6 a6 n6 c6 HO6
 case k =>
 intro a5 n5 c5 w6 a6 n6 c6 HO6
 clear HTN HD4 HR1 HR2 HCW4 t0
 try dsimp only
 have HQ7 : Hid (∀ b, b ≠ w3.heap.size → (w6.setCell ⟨w3.heap.size, 0, none⟩ (.slice a6 n6 c6)).heap[b]? = w6.heap[b]?) := fun b hb => Below.heap_setCell _ _ _ _ (fun e => hb e)
 have HU7 : Hid ((w6.setCell ⟨w3.heap.size, 0, none⟩ (.slice a6 n6 c6)).heap[w3.heap.size]? = some (.cells #[.slice a6 n6 c6, .slice ad t.defs.length cd] 25 (0, 0))) := set_cells (j := 0) (HUN.out w6 HO6.out.2) _
 have HB7 : Hid (Below w.heap.size w (w6.setCell ⟨w3.heap.size, 0, none⟩ (.slice a6 n6 c6))) := (HB4.out.trans (HO6.out.2.mono (by omega))).setCell (p := ⟨w3.heap.size, 0, none⟩) (by show w.heap.size ≤ w3.heap.size; omega) _
 have HZ7 : Hid ((w6.setCell ⟨w3.heap.size, 0, none⟩ (.slice a6 n6 c6)).heap.size = w6.heap.size) := by unfold Hid; simp [World.setCell]
 generalize hWW : World.setCell w6 _ _ = w7 at *
 clear hWW
 have hz6 : w4.heap.size ≤ w6.heap.size := HO6.out.2.size
 have hz7 : w3.heap.size < w7.heap.size := by have := HZ7.out; omega
 have HK7 : Hid (∀ b, b < w4.heap.size → b ≠ w3.heap.size → w7.heap[b]? = w4.heap[b]?) := fun b hb hne => (HQ7.out b hne).trans (HO6.out.2.block b hb)
 have HT7 := Lib.hid ((HK7.out _ (by omega) (by omega)).trans HT4.out)
 have HV7 := Lib.hid ((HK7.out _ (by omega) (by omega)).trans HV4.out)
 have HPA7 : Hid (Pcs (· < w7.heap.size) w7 (.slice aa la.length ca) la) := (HPA4.out.kept (fun b hb => HK7.out b (by have : b < w3.heap.size := hb; omega) (by have : b < w3.heap.size := hb; omega))).mono fun b hb => by have : b < w3.heap.size := hb; omega
 have HPU7 : Hid (Parts (· < w7.heap.size) w7 (.slice a6 n6 c6) (t.main.app t.main)) := by
  have ho := own_kept HO6.out.1 (w' := w7) (fun g hg => HQ7.out g (by have := (own_new HO6.out.1 g hg).1; omega))
  rw [List.nil_append] at ho
  have hcr7 : RowC (· < w.heap.size) w7 t.main cs := RowC.kept (fun b hb => HB7.out.block b hb) _ _ HCR.out
  exact pts_own ho (RowC.app _ _ _ _ hcr7 hcr7) (by rw [Pt.len_app]; omega) (fun b hb => Nat.lt_of_lt_of_le hb HB7.out.size)
 obtain ⟨_, _, he, -⟩ := id HPU7.out
 cases he
 clear HQ7 HZ7 HO6 hz6 HK7 HCC HCR HCL HC1 HT4 HV4 HU4 HPA4 HUN HB4 hz4
 have R2 := Lib.hid (run_calls (twT t) HUW.out.2 v HSV.out 600 9 a6 ad a1 a2 c6 cd c1 c2 w7 (GW.out w7 HB7.out) HPU7.out ((HPD.out.kept (Kept.of_below HB7.out)).mono (fun b hb => Nat.lt_of_lt_of_le hb HB7.out.size)) ((HXV.out.kept (Kept.of_below HB7.out)).mono (fun b hb => Nat.lt_of_lt_of_le hb HB7.out.size)))
 have HOB := Lib.hid (run_out HUW.out.1 HSV.out 600 9)
 obtain ⟨⟨lb, eb, pb⟩, hrb⟩ : ∃ r, Ev.runT (twT t) v 600 9 = r := ⟨_, rfl⟩
 have HRB := Lib.hid hrb
 rw [hrb] at HOB
 dsimp only at HOB
 have u0 : w7.cell? ⟨w3.heap.size, 0, none⟩ = some (.slice a6 (t.main.app t.main).len c6) := by rw [cell_of_heap' HU7.out]; rfl
 have u1 : w7.cell? ⟨w3.heap.size, 1, none⟩ = some (.slice ad t.defs.length cd) := by rw [cell_of_heap' HU7.out]; rfl
 obtain ⟨v0, v1, v2, v3, v4, v5, v6⟩ := xcCs (h := v.h) HV7.out
 go_wp2_with fail
 refine R2.out.mono ?_
 rw [hrb]
 rintro e w8 ⟨hb8, ab, cb, rfl, hpb⟩
 have HPB8 := Lib.hid (pcs_old hpb (Below.refl _ _))
 dsimp only at HPB8
 have HPA8 : Hid (Pcs (· < w8.heap.size) w8 (.slice aa la.length ca) la) := (HPA7.out.kept (fun b hb => hb8.block b hb)).mono fun b hb => Nat.lt_of_lt_of_le hb hb8.size
 have HPU8 : Hid (Parts (· < w8.heap.size) w8 (.slice a6 (t.main.app t.main).len c6) (t.main.app t.main)) := (HPU7.out.kept (fun b hb => hb8.block b hb)).mono fun b hb => Nat.lt_of_lt_of_le hb hb8.size
 clear hpb R2 hrb HPA7 HPU7
 have HB8 : Hid (Below w.heap.size w w8) := HB7.out.trans (hb8.mono (by omega))
 have hz8 : w3.heap.size < w8.heap.size := by have := hb8.size; omega
 have HT8 := Lib.hid ((hb8.block _ (by omega)).trans HT7.out)
 have HV8 := Lib.hid ((hb8.block _ (by omega)).trans HV7.out)
 have HU8 := Lib.hid ((hb8.block _ (by omega)).trans HU7.out)
 clear hb8 hz7 u0 u1 v0 v1 v2 v3 v4 v5 v6
 dsimp only
 by_cases hea : ea = 0
 rotate_left
 · have hcb : ((ea : Int) != 0) = true := by
    have : ((ea : Int) == 0) = false := beq_eq_false_iff_ne.2 (by omega)
    simp only [bne, this]; rfl
   clear hea
   go_wp2_with fail
   go_ret
   exact ⟨rfl, HB8.out⟩
 subst hea
 have u0 : w8.cell? ⟨w3.heap.size, 0, none⟩ = some (.slice a6 (t.main.app t.main).len c6) := by rw [cell_of_heap' HU8.out]; rfl
 have u1 : w8.cell? ⟨w3.heap.size, 1, none⟩ = some (.slice ad t.defs.length cd) := by rw [cell_of_heap' HU8.out]; rfl
 have CU := Lib.hid (check_calls (twT t) HUW.out.2 (.slice a6 (t.main.app t.main).len c6) (.slice ad t.defs.length cd) w8 (GW.out w8 HB8.out) HPU8.out ((HPD.out.kept (Kept.of_below HB8.out)).mono (fun b hb => Nat.lt_of_lt_of_le hb HB8.out.size)))
 go_wp2_with fail
 refine CU.out.mono ?_
 rintro e w9 ⟨rfl, hb9⟩
 have HPA9 : Hid (Pcs (· < w9.heap.size) w9 (.slice aa la.length ca) la) := (HPA8.out.kept (fun b hb => hb9.block b hb)).mono fun b hb => Nat.lt_of_lt_of_le hb hb9.size
 have HPB9 : Hid (Pcs (· < w9.heap.size) w9 (.slice ab lb.length cb) lb) := (HPB8.out.kept (fun b hb => hb9.block b hb)).mono fun b hb => Nat.lt_of_lt_of_le hb hb9.size
 have HB9 : Hid (Below w.heap.size w w9) := HB8.out.trans (hb9.mono (by omega))
 have hz9 : w3.heap.size < w9.heap.size := by have := hb9.size; omega
 have HT9 := Lib.hid ((hb9.block _ (by omega)).trans HT8.out)
 have HV9 := Lib.hid ((hb9.block _ (by omega)).trans HV8.out)
 clear hb9 CU HPA8 HPB8 HPU8 HT8 HV8 HU8 u0 u1 hz8
 by_cases hck : (twT t).check = 0
 rotate_left
 · have hcb : (((twT t).check : Int) != 0) = true := by
    have : (((twT t).check : Int) == 0) = false := beq_eq_false_iff_ne.2 (by omega)
    simp only [bne, this]; rfl
   clear hck
   go_wp2_with fail
   go_ret
   exact ⟨rfl, HB9.out⟩
 have hcb : (((twT t).check : Int) != 0) = false := by rw [hck]; rfl
 have hpl := run_twice_t t (twT t) rfl rfl v (by rw [HRA.out]) hck
 rw [HRB.out, HRA.out] at hpl
 have hlb : lb = la ++ la := congrArg Prod.fst hpl
 have heb : eb = 0 := congrArg (fun x => x.2.1) hpl
 subst heb
 have HLB := Lib.hid hlb
 clear hpl hlb hck HRB
 obtain ⟨ds, hds⟩ := Pcs.cells HPA9.out
 have HDS := Lib.hid hds
 clear hds
 have HLA : Hid (la.length ≤ 1000000) := HOA.out.2
 have HS1 : Hid (∀ W, Below w9.heap.size w9 W → ∀ ty, ∃ v' w', (Builtin.append_ #[36, 36] ty #[.slice none 0 0, .slice aa la.length ca]).run Tryz.prog W = .ok v' w' ∧ OwP w9.heap.size w9 (0 + la.length) ([] ++ ds) v' w') := fun W hW =>
  app_pcs (World.ownsRow_nil _ _ _ _) hW hW.size (HDS.out.kept hW) (by have := HLA.out; omega)
 have HS2 : Hid (∀ W v5, OwP w9.heap.size w9 (0 + la.length) ([] ++ ds) v5 W → ∀ ty, ∃ v' w', (Builtin.append_ #[36, 36] ty #[v5, .slice aa la.length ca]).run Tryz.prog W = .ok v' w' ∧ OwP w9.heap.size w9 (0 + la.length + la.length) (([] ++ ds) ++ ds) v' w') := fun W v5 h =>
  app_pcs h.1 h.2 h.2.size (HDS.out.kept h.2) (by have := HLA.out; omega)
 go_upto_region 14 with (at_builtin; first | (refine app_row (by rfl) _ _ 36 (by rfl) (.slice none 0 0) (.slice aa la.length ca) (by rfl) (by rfl) _ (HS1.out w9 (Below.refl _ _)) ?_; rintro v10 w10 ho10; obtain ⟨a10, n10, c10, rfl⟩ := own_shp ho10.1; have HO10 := Lib.hid ho10; clear ho10) | (refine app_row (by rfl) _ _ 36 (by rfl) (.slice a10 n10 c10) (.slice aa la.length ca) (by rfl) (by rfl) _ (HS2.out w10 _ HO10.out) ?_; rintro v11 w11 ho11; obtain ⟨a11, n11, c11, rfl⟩ := own_shp ho11.1; have HO11 := Lib.hid ho11; clear ho11))
 clear hcb
 have hb11 := HO11.out.2
 have HB11 : Hid (Below w.heap.size w w11) := HB9.out.trans (hb11.mono (by omega))
 have hz11 : w3.heap.size < w11.heap.size := by have := hb11.size; omega
 have HT11 := Lib.hid ((hb11.block _ (by omega)).trans HT9.out)
 have HV11 := Lib.hid ((hb11.block _ (by omega)).trans HV9.out)
 have HPA11 : Hid (Pcs (· < w9.heap.size) w11 (.slice aa la.length ca) la) := HPA9.out.kept (fun b hb => hb11.block b hb)
 have HPB11 : Hid (Pcs (· < w9.heap.size) w11 (.slice ab lb.length cb) lb) := HPB9.out.kept (fun b hb => hb11.block b hb)
 have HTW : Hid (Pcs (· < w11.heap.size) w11 (.slice a11 n11 c11) lb) := by
  have ho := HO11.out.1
  have hq := pcs_rep (n := 2) HPA11.out (HDS.out.kept hb11) (fun b hb => Nat.lt_of_lt_of_le hb hb11.size) (by rw [show 2 * la.length = 0 + la.length + la.length by omega]; exact ho)
  rw [show repL la 2 = lb by rw [HLB.out]; simp [repL]] at hq
  exact hq
 have HO9z : Hid (w9.heap.size ≤ w11.heap.size) := hb11.size
 clear hb11 HO10 HO11 HS1 HS2 HPA9 HPB9 HT9 HV9
 have SC := Lib.hid (samePieces_calls lb (fun p hp => Va.sm_wf (HOB.out.1 p hp).1) (by have := HOB.out.2; omega) _ _ (.slice ab lb.length cb) (.slice a11 n11 c11) w11 HPB11.out HTW.out)
 go_wp2_with fail
 refine SC.out.mono ?_
 rintro e w12 ⟨rfl, hb12⟩
 have HB12 : Hid (Below w.heap.size w w12) := HB11.out.trans (hb12.mono (by omega))
 have hz12 : w3.heap.size < w12.heap.size := by have := hb12.size; omega
 have HT12 := Lib.hid ((hb12.block _ (by omega)).trans HT11.out)
 have HV12 := Lib.hid ((hb12.block _ (by omega)).trans HV11.out)
 have HPA12 : Hid (Pcs (· < w12.heap.size) w12 (.slice aa la.length ca) la) := (HPA11.out.kept (fun b hb => hb12.block b (by have := HO9z.out; have : b < w9.heap.size := hb; omega))).mono fun b hb => by have := HO9z.out; have : b < w9.heap.size := hb; have := hb12.size; omega
 clear hb12 SC HTW HPB11 HPA11 HOB HT11 HV11
 have hlt12 : w.heap.size < w12.heap.size := by omega
 have t0 : w12.cell? ⟨w.heap.size, 0, none⟩ = some (.slice am t.main.len cm) := by rw [cell_of_heap' HT12.out]; rfl
 have t1 : w12.cell? ⟨w.heap.size, 1, none⟩ = some (.slice ad t.defs.length cd) := by rw [cell_of_heap' HT12.out]; rfl
 have HG : Hid (∀ W0, (((w12.alloc (.cells #[.slice (some ⟨w12.heap.size + 1 + 1, 0, none⟩) 1 1, .slice ad t.defs.length cd] 25)).alloc (.cells #[.string ⟨#[110]⟩] 9)).alloc (.cells #[.int .u8 4, .int .i64 0, .string ⟨#[]⟩, .bool false, .slice (some ⟨w12.heap.size + 1, 0, none⟩) 1 1, .string ⟨#[]⟩, .slice am t.main.len cm, .slice none 0 0] 56)) = W0 → Below w12.heap.size w12 W0 ∧ W0.heap.size = w12.heap.size + 3 ∧ W0.heap[w12.heap.size]? = some (.cells #[.slice (some ⟨w12.heap.size + 1 + 1, 0, none⟩) 1 1, .slice ad t.defs.length cd] 25 (0, 0)) ∧ W0.heap[w12.heap.size + 1]? = some (.cells #[.string ⟨#[110]⟩] 9 (0, 0)) ∧ W0.heap[w12.heap.size + 1 + 1]? = some (.cells #[.int .u8 4, .int .i64 0, .string ⟨#[]⟩, .bool false, .slice (some ⟨w12.heap.size + 1, 0, none⟩) 1 1, .string ⟨#[]⟩, .slice am t.main.len cm, .slice none 0 0] 56 (0, 0))) := by
  rintro W0 rfl
  have n0 := heap_alloc_new w12 (.cells #[.slice (some ⟨w12.heap.size + 1 + 1, 0, none⟩) 1 1, .slice ad t.defs.length cd] 25)
  have n1 := heap_alloc_new (w12.alloc (.cells #[.slice (some ⟨w12.heap.size + 1 + 1, 0, none⟩) 1 1, .slice ad t.defs.length cd] 25)) (.cells #[.string ⟨#[110]⟩] 9)
  have n2 := heap_alloc_new ((w12.alloc (.cells #[.slice (some ⟨w12.heap.size + 1 + 1, 0, none⟩) 1 1, .slice ad t.defs.length cd] 25)).alloc (.cells #[.string ⟨#[110]⟩] 9)) (.cells #[.int .u8 4, .int .i64 0, .string ⟨#[]⟩, .bool false, .slice (some ⟨w12.heap.size + 1, 0, none⟩) 1 1, .string ⟨#[]⟩, .slice am t.main.len cm, .slice none 0 0] 56)
  simp only [World.size_alloc] at n1 n2
  exact ⟨(((Below.refl _ w12).alloc (Nat.le_refl _) _).alloc (by simp) _).alloc (by simp <;> omega) _, by simp, (Below.heap_alloc _ _ _ (by simp <;> omega)).trans ((Below.heap_alloc _ _ _ (by simp)).trans n0), (Below.heap_alloc _ _ _ (by simp)).trans n1, n2⟩
 go_upto_region 18 with (fail)
 clear t0 t1 hlt12
 generalize hWW : World.alloc (World.alloc (World.alloc w12 _) _) _ = w13 at *
 obtain ⟨hb13, hs13, hw13, hn13, hk13⟩ := HG.out w13 rfl
 clear hWW HG
 have HB13 : Hid (Below w.heap.size w w13) := HB12.out.trans (hb13.mono (by omega))
 have HT13 := Lib.hid ((hb13.block _ (by omega)).trans HT12.out)
 have HV13 := Lib.hid ((hb13.block _ (by omega)).trans HV12.out)
 have HPA13 : Hid (Pcs (· < w13.heap.size) w13 (.slice aa la.length ca) la) := (HPA12.out.kept (fun b hb => hb13.block b hb)).mono fun b hb => Nat.lt_of_lt_of_le hb hb13.size
 have HW13 := Lib.hid hw13
 have hpm13 : Parts (· < w13.heap.size) w13 (.slice am t.main.len cm) t.main := (HPM.out.kept (Kept.of_below HB13.out)).mono (fun b hb => Nat.lt_of_lt_of_le hb HB13.out.size)
 have HPW13 : Hid (Parts (· < w13.heap.size) w13 (.slice (some ⟨w12.heap.size + 1 + 1, 0, none⟩) 1 1) (rgT t).main) := by
  have c := fun j => cell_of_heap' hk13 j
  obtain ⟨a', c', he, k1, k2, k3⟩ := hpm13
  cases he
  refine ⟨_, _, rfl, Nat.le_refl _, by decide, fun _ => ⟨w12.heap.size + 1 + 1, 0, rfl, by omega, ⟨⟨c 0, c 1, c 2, c 3, ⟨_, c 4, ⟨_, _, rfl, Nat.le_refl _, by decide, fun _ => ⟨w12.heap.size + 1, 0, rfl, by omega, fun i s hi => ?_⟩⟩⟩, c 5⟩, ⟨_, _, c 6, k1, k2, k3⟩, ⟨_, _, c 7, Nat.le_refl _, by decide, fun h => absurd rfl h⟩, trivial⟩⟩⟩
  cases i with
  | zero =>
    obtain rfl : nmN = s := by simpa [hdR] using hi
    exact cell_of_heap' hn13 0
  | succ i => simp [hdR] at hi
 have hzz : w3.heap.size < w13.heap.size ∧ w12.heap.size + 1 + 1 < w13.heap.size := by omega
 clear hb13 hs13 hw13 hn13 hk13 hpm13 HPA12 HT12 HV12 HB12
 obtain ⟨arr, hasz, hmk⟩ : ∃ arr : Array Value, arr.size = m * 7 ∧ ∀ W, (Instr.makeSlice 29 (.int .i64 (m : Int)) (.int .i64 (m : Int))).run Tryz.prog W = .ok (.slice (some ⟨W.heap.size, 0, none⟩) m m) (W.alloc (.cells arr 31)) := by
  obtain ⟨i0, hi, hz0, hz1, hz2⟩ := info_parts infoVal
  refine ⟨madeCells (Value.agg #[.int .u8 0, .bool false, .int .i64 0, .int .u64 0, .string ⟨#[]⟩, .slice none 0 0, .slice none 0 0]).cells (m * 7), size_madeCells _ _, fun W => ?_⟩
  have h := run_make (P := Tryz.prog) W 29 31 i0 _ Tryz.underlying29 hi hz0 .i64 .i64 m m (by omega) (Int.le_refl _) (by rw [hz2]; omega) (by omega)
  rw [hz1] at h
  simp only [Int.toNat_natCast] at h
  exact h
 have HA14 : Hid (Below w13.heap.size w13 (w13.alloc (.cells arr 31))) := (Below.refl _ w13).alloc (Nat.le_refl _) _
 have HI14 : Hid ((w13.alloc (.cells arr 31)).heap[w13.heap.size]? = some (.cells arr 31 (0, 0))) := heap_alloc_new w13 _
 have HS14 : Hid ((w13.alloc (.cells arr 31)).heap.size = w13.heap.size + 1) := by unfold Hid; simp
 go_upto_region 19 with (fail)
 generalize hWW : World.alloc w13 _ = w14 at *
 clear hWW hmk
 have hz14 : w14.heap.size = w13.heap.size + 1 := HS14.out
 have HV14 := Lib.hid ((HA14.out.block _ (by omega)).trans HV13.out)
 have HIT : Hid (ItR w13.heap.size m v w14 w14 0) := ⟨Below.refl _ _, rfl, frozen_cells HI14.out, fun j hj => ⟨arr[j], by rw [cell_of_heap' HI14.out, Array.getElem?_eq_getElem (by omega)]⟩, trivial⟩
 have HVX : Hid (ValS (· < w13.heap.size) w14 v a1 c1 a2 c2) := ((HXV.out.kept (Kept.of_below (HB13.out.trans (HA14.out.mono (by omega))))).mono fun b hb => by have : b < w.heap.size := hb; omega)
 clear HS14 HI14
 go_wp2_with fail
 go_loopw [19] (fun i wr => ∃ k : Nat, i = .int .i64 (k : Nat) ∧ k ≤ m ∧ Hid (ItR w13.heap.size m v w14 wr k)) (fun i _ => m - (intOf i).toNat)
 case atStart => exact ⟨0, rfl, Nat.zero_le _, HIT⟩
 case round =>
 obtain ⟨k, rfl, hkm, HI⟩ := hrel
 clear HIT
 have HBX := Lib.hid HI.out.1
 have hzr : wr.heap.size = w13.heap.size + 1 := HI.out.2.1.trans hz14
 by_cases hlt : k < m
 · have hlt' : (k : Int) < (m : Int) := by omega
   have hk0 : (0 : Int) ≤ (k : Int) := by omega
   have hf : ∀ j, wr.frozen? ⟨w13.heap.size, j, none⟩ = false := HI.out.2.2.1
   have HVR := Lib.hid ((HBX.out.block _ (by omega)).trans HV14.out)
   obtain ⟨v0, v1, v2, v3, v4, v5, v6⟩ := xcCs (h := v.h) HVR.out
   obtain ⟨x0, t0⟩ := HI.out.2.2.2.1 (k * 7) (by omega)
   obtain ⟨x1, t1⟩ := HI.out.2.2.2.1 (k * 7 + 1) (by omega)
   obtain ⟨x2, t2⟩ := HI.out.2.2.2.1 (k * 7 + 2) (by omega)
   obtain ⟨x3, t3⟩ := HI.out.2.2.2.1 (k * 7 + 3) (by omega)
   obtain ⟨x4, t4⟩ := HI.out.2.2.2.1 (k * 7 + 4) (by omega)
   obtain ⟨x5, t5⟩ := HI.out.2.2.2.1 (k * 7 + 5) (by omega)
   obtain ⟨x6, t6⟩ := HI.out.2.2.2.1 (k * 7 + 6) (by omega)
   have HST := Lib.hid (set7 (.int .u8 (v.h.kind : Nat)) (.bool v.h.b) (.int .i64 v.h.n) (.int .u64 (v.h.bits : Nat)) (.string v.h.text) (.slice a1 v.h.keys.length c1) (.slice a2 v.items.len c2) t0 t1 t2 t3 t4 t5 t6)
   go_wp2_with fail
   generalize hWW : World.setCell _ _ _ = W2 at *
   clear hWW
   go_roundw
   case rel =>
    refine ⟨k + 1, by go_num, by omega, HBX.out.trans (HST.out.below (Nat.le_refl _)), HST.out.size.trans HI.out.2.1, HST.out.unf _ hf, fun j hj => ?_, ?_⟩
    · by_cases h1 : j < k * 7 ∨ k * 7 + 7 ≤ j
      · rw [HST.out.far j h1]; exact HI.out.2.2.2.1 j hj
      · obtain ⟨d, rfl⟩ : ∃ d, j = k * 7 + d := ⟨j - k * 7, by omega⟩
        match d, (show d < 7 by omega) with
        | 0, _ => exact ⟨_, HST.out.is 0 _ rfl⟩
        | 1, _ => exact ⟨_, HST.out.is 1 _ rfl⟩
        | 2, _ => exact ⟨_, HST.out.is 2 _ rfl⟩
        | 3, _ => exact ⟨_, HST.out.is 3 _ rfl⟩
        | 4, _ => exact ⟨_, HST.out.is 4 _ rfl⟩
        | 5, _ => exact ⟨_, HST.out.is 5 _ rfl⟩
        | 6, _ => exact ⟨_, HST.out.is 6 _ rfl⟩
    · rw [← repV_snoc]
      have hko : ∀ b, b < w13.heap.size → W2.heap[b]? = wr.heap[b]? := fun b hb => HST.out.oth b (by omega)
      refine RowX.app _ _ _ _ (RowX.move (fun b hb => ⟨hb, hko b hb⟩) _ _ 0 _ 0 (fun j hj => ?_) HI.out.2.2.2.2) ?_
      · rw [repV_len] at hj
        exact HST.out.far _ (.inl (by omega))
      · rw [repV_len, Nat.zero_add]
        obtain ⟨hs, av, cv, he, q1, q2, q3⟩ := HVX.out
        cases he
        have hk2 : Kept (· < w13.heap.size) w14 W2 := fun b hb => (hko b hb).trans (HBX.out.block b hb)
        refine ⟨⟨HST.out.is 0 _ rfl, HST.out.is 1 _ rfl, HST.out.is 2 _ rfl, HST.out.is 3 _ rfl, HST.out.is 4 _ rfl, _, HST.out.is 5 _ rfl, hs.kept hk2⟩, ⟨_, _, HST.out.is 6 _ rfl, q1, q2, fun hn => ?_⟩, trivial⟩
        obtain ⟨b', o', j1, j2, j3⟩ := q3 hn
        exact ⟨b', o', j1, j2, RowX.kept hk2 _ _ _ j2 j3⟩
   case measure => simp [intOf]; omega
 have hge : ¬ (k : Int) < (m : Int) := by omega
 obtain rfl : k = m := by omega
 have HG2 : Hid (∀ W0, (((wr.alloc (.cells #[.string ⟨#[110]⟩] 9)).alloc (.cells #[.int .u8 6, .bool false, .int .i64 0, .int .u64 0, .string ⟨#[]⟩, .slice none 0 0, .slice (some ⟨w13.heap.size, 0, none⟩) k k] 31)).alloc (.cells #[.int .u8 7, .bool false, .int .i64 0, .int .u64 0, .string ⟨#[]⟩, .slice (some ⟨w13.heap.size + 1, 0, none⟩) 1 1, .slice (some ⟨w13.heap.size + 1 + 1, 0, none⟩) 1 1] 31)) = W0 → Below wr.heap.size wr W0 ∧ W0.heap.size = wr.heap.size + 3 ∧ W0.heap[w13.heap.size + 1]? = some (.cells #[.string ⟨#[110]⟩] 9 (0, 0)) ∧ W0.heap[w13.heap.size + 1 + 1]? = some (.cells #[.int .u8 6, .bool false, .int .i64 0, .int .u64 0, .string ⟨#[]⟩, .slice none 0 0, .slice (some ⟨w13.heap.size, 0, none⟩) k k] 31 (0, 0)) ∧ W0.heap[w13.heap.size + 1 + 1 + 1]? = some (.cells #[.int .u8 7, .bool false, .int .i64 0, .int .u64 0, .string ⟨#[]⟩, .slice (some ⟨w13.heap.size + 1, 0, none⟩) 1 1, .slice (some ⟨w13.heap.size + 1 + 1, 0, none⟩) 1 1] 31 (0, 0))) := by
  rintro W0 rfl
  have n0 := heap_alloc_new wr (.cells #[.string ⟨#[110]⟩] 9)
  have n1 := heap_alloc_new (wr.alloc (.cells #[.string ⟨#[110]⟩] 9)) (.cells #[.int .u8 6, .bool false, .int .i64 0, .int .u64 0, .string ⟨#[]⟩, .slice none 0 0, .slice (some ⟨w13.heap.size, 0, none⟩) k k] 31)
  have n2 := heap_alloc_new ((wr.alloc (.cells #[.string ⟨#[110]⟩] 9)).alloc (.cells #[.int .u8 6, .bool false, .int .i64 0, .int .u64 0, .string ⟨#[]⟩, .slice none 0 0, .slice (some ⟨w13.heap.size, 0, none⟩) k k] 31)) (.cells #[.int .u8 7, .bool false, .int .i64 0, .int .u64 0, .string ⟨#[]⟩, .slice (some ⟨w13.heap.size + 1, 0, none⟩) 1 1, .slice (some ⟨w13.heap.size + 1 + 1, 0, none⟩) 1 1] 31)
  simp only [World.size_alloc, hzr] at n0 n1 n2
  exact ⟨(((Below.refl _ wr).alloc (Nat.le_refl _) _).alloc (by simp) _).alloc (by simp <;> omega) _, by simp, (Below.heap_alloc _ _ _ (by simp <;> omega)).trans ((Below.heap_alloc _ _ _ (by simp <;> omega)).trans n0), (Below.heap_alloc _ _ _ (by simp <;> omega)).trans n1, n2⟩
 go_upto_region 24 with (fail)
 generalize hWW : World.alloc (World.alloc (World.alloc wr _) _) _ = w16 at *
 obtain ⟨hb16, hs16, hn16, hl16, hr16⟩ := HG2.out w16 rfl
 clear hWW HG2
 have HK16 : Hid (∀ b, b < w13.heap.size → w16.heap[b]? = w13.heap[b]?) := fun b hb => (hb16.block b (by omega)).trans ((HBX.out.block b hb).trans (HA14.out.block b hb))
 have HB16 : Hid (Below w.heap.size w w16) := (((HB13.out.trans (HA14.out.mono (by omega))).trans (HBX.out.mono (by omega))).trans (hb16.mono (by omega)))
 have HT16 := Lib.hid ((HK16.out _ (by omega)).trans HT13.out)
 have HW16 := Lib.hid ((HK16.out _ (by omega)).trans HW13.out)
 have HPA16 : Hid (Pcs (· < w16.heap.size) w16 (.slice aa la.length ca) la) := (HPA13.out.kept HK16.out).mono fun b hb => by have : b < w13.heap.size := hb; omega
 have HPW16 : Hid (Parts (· < w16.heap.size) w16 (.slice (some ⟨w12.heap.size + 1 + 1, 0, none⟩) 1 1) (rgT t).main) := (HPW13.out.kept HK16.out).mono fun b hb => by have : b < w13.heap.size := hb; omega
 have HVR16 : Hid (ValS (· < w16.heap.size) w16 (rngV nmN v k) (some ⟨w13.heap.size + 1, 0, none⟩) 1 (some ⟨w13.heap.size + 1 + 1, 0, none⟩) 1) := by
  have c := fun j => cell_of_heap' hl16 j
  refine ⟨⟨_, _, rfl, Nat.le_refl _, by decide, fun _ => ⟨w13.heap.size + 1, 0, rfl, by omega, fun i s hi => ?_⟩⟩, ⟨_, _, rfl, Nat.le_refl _, by decide, fun _ => ⟨w13.heap.size + 1 + 1, 0, rfl, by omega, ⟨⟨c 0, c 1, c 2, c 3, c 4, _, c 5, Strs.nil _ _⟩, ⟨some ⟨w13.heap.size, 0, none⟩, k, by rw [repV_len]; exact c 6, by rw [repV_len]; exact Nat.le_refl _, by unfold maxLen; omega, fun _ => ⟨w13.heap.size, 0, rfl, by omega, ?_⟩⟩, trivial⟩⟩⟩⟩
  · cases i with
    | zero =>
      obtain rfl : nmN = s := by simpa [rngV] using hi
      exact cell_of_heap' hn16 0
    | succ i => simp [rngV] at hi
  · have h1 : RowX (· < wr.heap.size) wr (repV v k) w13.heap.size 0 := HI.out.2.2.2.2.mono (fun b hb => by have : b < w13.heap.size := hb; omega) _ _ _
    exact (RowX.kept (fun b hb => hb16.block b hb) _ _ _ (by omega) h1).mono (fun b hb => by have : b < wr.heap.size := hb; omega) _ _ _
 have HR16 := Lib.hid hr16
 have hzw : w12.heap.size < w16.heap.size ∧ w.heap.size < w16.heap.size ∧ w13.heap.size + 1 + 1 + 1 < w16.heap.size := by omega
 have hkm9 : k ≤ 9 := hm9
 clear hb16 hs16 hn16 hl16 hr16 HI HBX HK16 HA14 HT13 HV13 HW13 HPA13 HPW13 HVX HV14 HB13 hasz hge
 have HSR := Lib.hid (rng_sm HSV.out HCW.out k hkm9)
 have R3 : Hid (Calls Tryz.prog 12 #[.agg #[.slice (some ⟨w12.heap.size + 1 + 1, 0, none⟩) 1 1, .slice ad t.defs.length cd], .agg #[.int .u8 7, .bool false, .int .i64 0, .int .u64 0, .string ⟨#[]⟩, .slice (some ⟨w13.heap.size + 1, 0, none⟩) 1 1, .slice (some ⟨w13.heap.size + 1 + 1, 0, none⟩) 1 1], .int .i64 3000, .int .i64 9] w16 (RunR (Ev.runT (rgT t) (rngV nmN v k) 3000 9) w16)) :=
  run_calls (rgT t) HRW.out.2 (rngV nmN v k) HSR.out 3000 9 (some ⟨w12.heap.size + 1 + 1, 0, none⟩) ad (some ⟨w13.heap.size + 1, 0, none⟩) (some ⟨w13.heap.size + 1 + 1, 0, none⟩) 1 cd 1 1 w16 (GW.out w16 HB16.out) HPW16.out ((HPD.out.kept (Kept.of_below HB16.out)).mono (fun b hb => Nat.lt_of_lt_of_le hb HB16.out.size)) HVR16.out
 have HOC := Lib.hid (run_out HRW.out.1 HSR.out 3000 9)
 obtain ⟨⟨lc, ec, pc⟩, hrc⟩ : ∃ r, Ev.runT (rgT t) (rngV nmN v k) 3000 9 = r := ⟨_, rfl⟩
 have HRC := Lib.hid hrc
 rw [hrc] at HOC R3
 dsimp only at HOC
 clear hrc
 have t0 : w16.cell? ⟨w12.heap.size, 0, none⟩ = some (.slice (some ⟨w12.heap.size + 1 + 1, 0, none⟩) 1 1) := by rw [cell_of_heap' HW16.out]; rfl
 have t1 : w16.cell? ⟨w12.heap.size, 1, none⟩ = some (.slice ad t.defs.length cd) := by rw [cell_of_heap' HW16.out]; rfl
 have x0 : w16.cell? ⟨w13.heap.size + 1 + 1 + 1, 0, none⟩ = some (.int .u8 7) := by rw [cell_of_heap' HR16.out]; rfl
 have x1 : w16.cell? ⟨w13.heap.size + 1 + 1 + 1, 1, none⟩ = some (.bool false) := by rw [cell_of_heap' HR16.out]; rfl
 have x2 : w16.cell? ⟨w13.heap.size + 1 + 1 + 1, 2, none⟩ = some (.int .i64 0) := by rw [cell_of_heap' HR16.out]; rfl
 have x3 : w16.cell? ⟨w13.heap.size + 1 + 1 + 1, 3, none⟩ = some (.int .u64 0) := by rw [cell_of_heap' HR16.out]; rfl
 have x4 : w16.cell? ⟨w13.heap.size + 1 + 1 + 1, 4, none⟩ = some (.string ⟨#[]⟩) := by rw [cell_of_heap' HR16.out]; rfl
 have x5 : w16.cell? ⟨w13.heap.size + 1 + 1 + 1, 5, none⟩ = some (.slice (some ⟨w13.heap.size + 1, 0, none⟩) 1 1) := by rw [cell_of_heap' HR16.out]; rfl
 have x6 : w16.cell? ⟨w13.heap.size + 1 + 1 + 1, 6, none⟩ = some (.slice (some ⟨w13.heap.size + 1 + 1, 0, none⟩) 1 1) := by rw [cell_of_heap' HR16.out]; rfl
 go_wp2_with fail
 refine R3.out.mono ?_
 rintro e w17 ⟨hb17, ac, cc, rfl, hpc⟩
 have HPC17 := Lib.hid (pcs_old hpc (Below.refl _ _))
 dsimp only at HPC17
 have HB17 : Hid (Below w.heap.size w w17) := HB16.out.trans (hb17.mono (by omega))
 have HT17 := Lib.hid ((hb17.block _ (by omega)).trans HT16.out)
 have HW17 := Lib.hid ((hb17.block _ (by omega)).trans HW16.out)
 have HPA17 : Hid (Pcs (· < w17.heap.size) w17 (.slice aa la.length ca) la) := (HPA16.out.kept (fun b hb => hb17.block b hb)).mono fun b hb => Nat.lt_of_lt_of_le hb hb17.size
 have HPW17 : Hid (Parts (· < w17.heap.size) w17 (.slice (some ⟨w12.heap.size + 1 + 1, 0, none⟩) 1 1) (rgT t).main) := (HPW16.out.kept (fun b hb => hb17.block b hb)).mono fun b hb => Nat.lt_of_lt_of_le hb hb17.size
 have hz17 : w.heap.size < w17.heap.size := by have := hb17.size; omega
 clear hb17 hpc R3 x0 x1 x2 x3 x4 x5 x6 t0 t1 HT16 HW16 HPA16 HPW16 HVR16 HR16 HB16 hzw
 have CW : Hid (Calls Tryz.prog 22 #[.agg #[.slice (some ⟨w12.heap.size + 1 + 1, 0, none⟩) 1 1, .slice ad t.defs.length cd]] w17 (CheckR (rgT t) w17)) := check_calls (rgT t) HRW.out.2 (.slice (some ⟨w12.heap.size + 1 + 1, 0, none⟩) 1 1) (.slice ad t.defs.length cd) w17 (GW.out w17 HB17.out) HPW17.out ((HPD.out.kept (Kept.of_below HB17.out)).mono (fun b hb => Nat.lt_of_lt_of_le hb HB17.out.size))
 have t0 : w17.cell? ⟨w12.heap.size, 0, none⟩ = some (.slice (some ⟨w12.heap.size + 1 + 1, 0, none⟩) 1 1) := by rw [cell_of_heap' HW17.out]; rfl
 have t1 : w17.cell? ⟨w12.heap.size, 1, none⟩ = some (.slice ad t.defs.length cd) := by rw [cell_of_heap' HW17.out]; rfl
 dsimp only
 go_wp2_with fail
 refine CW.out.mono ?_
 rintro e w18 ⟨rfl, hb18⟩
 have HB18 : Hid (Below w.heap.size w w18) := HB17.out.trans (hb18.mono (by omega))
 have HT18 := Lib.hid ((hb18.block _ (by omega)).trans HT17.out)
 have HPA18 : Hid (Pcs (· < w18.heap.size) w18 (.slice aa la.length ca) la) := (HPA17.out.kept (fun b hb => hb18.block b hb)).mono fun b hb => Nat.lt_of_lt_of_le hb hb18.size
 have HPC18 : Hid (Pcs (· < w18.heap.size) w18 (.slice ac lc.length cc) lc) := (HPC17.out.kept (fun b hb => hb18.block b hb)).mono fun b hb => Nat.lt_of_lt_of_le hb hb18.size
 have hz18 : w.heap.size < w18.heap.size := by have := hb18.size; omega
 clear hb18 CW t0 t1 HT17 HW17 HPA17 HPC17 HPW17 HB17
 by_cases hck : (rgT t).check = 0
 rotate_left
 · have hcb : (((rgT t).check : Int) != 0) = true := by
    have : (((rgT t).check : Int) == 0) = false := beq_eq_false_iff_ne.2 (by omega)
    simp only [bne, this]; rfl
   clear hck
   go_wp2_with fail
   go_ret
   exact ⟨rfl, HB18.out⟩
 have hcb : (((rgT t).check : Int) != 0) = false := by rw [hck]; rfl
 clear hck
 by_cases hec : ec = 0
 rotate_left
 · have hcc : ((ec : Int) != 0) = true := by
    have : ((ec : Int) == 0) = false := beq_eq_false_iff_ne.2 (by omega)
    simp only [bne, this]; rfl
   clear hec
   go_wp2_with fail
   go_ret
   exact ⟨rfl, HB18.out⟩
 subst hec
 obtain ⟨es, hes⟩ := Pcs.cells HPA18.out
 have HES := Lib.hid hes
 have HLA : Hid (la.length ≤ 1000000) := HOA.out.2
 clear hes
 have HS3 : Hid (∀ W v5 j, j ≤ 9 → OwP w18.heap.size w18 (j * la.length) (repL es j) v5 W → ∀ ty, ∃ v' w', (Builtin.append_ #[36, 36] ty #[v5, .slice aa la.length ca]).run Tryz.prog W = .ok v' w' ∧ OwP w18.heap.size w18 (j * la.length + la.length) (repL es j ++ es) v' w') := fun W v5 j hj h =>
  app_pcs h.1 h.2 h.2.size (HES.out.kept h.2) (by have h1 := HLA.out; have h2 : j * la.length ≤ 9 * 1000000 := Nat.mul_le_mul hj h1; omega)
 go_wp2_with fail
 go_loopw [24, 25] (fun v24 v25 wr => ∃ (j : Nat) (aw : Option Addr) (nw cw : Nat), v24 = .slice aw nw cw ∧ v25 = .int .i64 (j : Nat) ∧ j ≤ k ∧ Hid (OwP w18.heap.size w18 (j * la.length) (repL es j) v24 wr)) (fun _ i _ => k - (intOf i).toNat)
 case atStart => exact ⟨0, none, 0, 0, rfl, rfl, Nat.zero_le _, by rw [Nat.zero_mul]; exact World.ownsRow_nil _ _ _ _, Below.refl _ _⟩
 case round =>
 obtain ⟨j, aw, nw, cw, rfl, rfl, hj, HO⟩ := hrel
 by_cases hlt : j < k
 · have hlt' : (j : Int) < (k : Int) := by omega
   have hj0 : (0 : Int) ≤ (j : Int) := by omega
   have hj9 : j ≤ 9 := by omega
   go_wp2_with (at_builtin; refine app_row (by rfl) _ _ 36 (by rfl) (.slice aw nw cw) (.slice aa la.length ca) (by rfl) (by rfl) _ (HS3.out _ _ j hj9 HO.out) ?_; rintro v6 w6 ho6; obtain ⟨a6, n6, c6, rfl⟩ := own_shp ho6.1; have HO6 := Lib.hid ho6; clear ho6)
   have HO7 : Hid (OwP w18.heap.size w18 ((j + 1) * la.length) (repL es (j + 1)) (.slice a6 n6 c6) w6) := by unfold Hid; rw [Nat.succ_mul]; exact HO6.out
   first
   | exact ⟨⟨j + 1, _, _, _, rfl, by go_num, by omega, HO7⟩, by simp [intOf]; omega⟩
   | (go_roundw
      case rel => exact ⟨j + 1, _, _, _, rfl, by go_num, by omega, HO7⟩
      case measure => simp [intOf]; omega)
 have hge : ¬ (j : Int) < (k : Int) := by omega
 obtain rfl : j = k := by omega
 have hbq := HO.out.2
 have HBQ : Hid (Below w.heap.size w wr) := HB18.out.trans (hbq.mono (by omega))
 have HTQ := Lib.hid ((hbq.block _ (by omega)).trans HT18.out)
 have HPCQ : Hid (Pcs (· < w18.heap.size) wr (.slice ac lc.length cc) lc) := HPC18.out.kept (fun b hb => hbq.block b hb)
 have HWQ : Hid (Pcs (· < wr.heap.size) wr (.slice aw nw cw) (repL la j)) := pcs_rep (HPA18.out.kept (fun b hb => hbq.block b hb)) (HES.out.kept hbq) (fun b hb => Nat.lt_of_lt_of_le hb hbq.size) HO.out.1
 have hzq : w18.heap.size ≤ wr.heap.size := hbq.size
 clear hbq HO HS3 HES HPA18 HPC18 HT18
 have t0 : wr.cell? ⟨w.heap.size, 0, none⟩ = some (.slice am t.main.len cm) := by rw [cell_of_heap' HTQ.out]; rfl
 have t1 : wr.cell? ⟨w.heap.size, 1, none⟩ = some (.slice ad t.defs.length cd) := by rw [cell_of_heap' HTQ.out]; rfl
 have RT := Lib.hid (rooted_calls t.main _ _ wr HTW.out.main.1 HTW.out.main.2 (HPM.out.kept (Kept.of_below HBQ.out)))
 go_wp2_with fail
 refine RT.out.mono ?_
 rintro e w20 ⟨rfl, hb20⟩
 have HB20 : Hid (Below w.heap.size w w20) := HBQ.out.trans (hb20.mono (by omega))
 cases hrt : rootF t.main with
 | true =>
   go_wp2_with fail
   go_ret
   exact ⟨rfl, HB20.out⟩
 | false =>
 have hpl := run_range_t t (rgT t) hdR nmN rfl rfl rfl rfl rfl v j hkm9 (by rw [HRA.out]) (by rw [HRC.out]) hrt
 rw [HRC.out, HRA.out] at hpl
 have hlc : lc = repL la j := by rw [repL_repO]; exact hpl
 have HPX : Hid (Pcs (· < wr.heap.size) w20 (.slice aw nw cw) lc) := by
  have h1 := HWQ.out.kept (fun b hb => hb20.block b hb)
  rw [← hlc] at h1
  exact h1
 have SC := Lib.hid (samePieces_calls lc (fun p hp => Va.sm_wf (HOC.out.1 p hp).1) (by have := HOC.out.2; omega) _ _ (.slice ac lc.length cc) (.slice aw nw cw) w20 (HPCQ.out.kept (fun b hb => hb20.block b (by have : b < w18.heap.size := hb; omega))) HPX.out)
 clear hpl hlc hrt hb20 t0 t1
 go_wp2_with fail
 refine SC.out.mono ?_
 rintro e w21 ⟨rfl, hb21⟩
 have HB21 : Hid (Below w.heap.size w w21) := HB20.out.trans (hb21.mono (by have := HB20.out.size; omega))
 clear hb21
 go_wp2_with fail
 go_ret
 exact ⟨rfl, HB21.out⟩
end Go.Proofs.YtepcpgdfbaklfaaGreatDoor
