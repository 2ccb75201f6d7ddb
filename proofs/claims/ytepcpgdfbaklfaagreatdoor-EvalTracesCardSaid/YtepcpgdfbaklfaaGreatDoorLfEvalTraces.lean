/- What EvalTraces stands on: its walk and the contracts of its helpers. The condition: sizes that memory has room for. -/
import Derived.Test.YtepcpgdfbaklfaaGreatDoorMcE0
import Derived.Test.YtepcpgdfbaklfaaGreatDoorMcG9
import Derived.Test.YtepcpgdfbaklfaaGreatDoorH8C
import Derived.Test.YtepcpgdfbaklfaaGreatDoorMcTg0
import Derived.Test.YtepcpgdfbaklfaaGreatDoorMcF1
import Derived.Test.YtepcpgdfbaklfaaGreatDoorMcF0
import Derived.Test.YtepcpgdfbaklfaaGreatDoorMcH4
import Derived.Test.YtepcpgdfbaklfaaGreatDoorMcMath
import Derived.Test.YtepcpgdfbaklfaaGreatDoorTc0C
set_option linter.unusedSimpArgs false
set_option linter.unusedVariables false
namespace Go.Proofs.YtepcpgdfbaklfaaGreatDoor
open Go.RowKit Go.Shelf Ev
def Pc.ok (p : Pc) : Prop := Va.sm p.val ∧ -9223372036854775808 ≤ p.pos ∧ p.pos ≤ 9223372036854775807
def AllO (r : Ev.Rs) : Prop := ∀ p ∈ r.out, Pc.ok p
theorem zero_sm : Va.sm zeroVa := ⟨⟨by decide, by decide, by decide, by decide, by decide, by decide, fun n hn => by cases hn⟩, trivial, by decide⟩
theorem allO_seq {a : Ev.Rs} {k : Nat → Ev.Rs} (h : AllO a) (hk : ∀ f, AllO (k f)) : AllO (a.seq k) := by
 cases ha : a.err with
 | some x => simp only [AllO, Ev.Rs.seq, ha]; exact h
 | none =>
   simp only [AllO, Ev.Rs.seq, ha]
   intro p hp
   rcases List.mem_append.1 hp with hp | hp
   · exact h p hp
   · exact hk _ p hp
theorem allO_list {one : Hd → Pt → Pt → Nat → Ev.Rs} (h : ∀ x k e f, x.wf → k.wf → e.wf → AllO (one x k e f)) : ∀ l f, l.wf → AllO (listF one l f)
 | .nil, f, _ => fun p hp => by cases hp
 | .cons x k e r, f, hw => allO_seq (h x k e f hw.1 hw.2.1 hw.2.2.1) fun f => allO_list h r f hw.2.2.2.1
theorem allO_burn {pos : Int} {f : Nat} {a : Nat → Ev.Rs} (h : ∀ g, AllO (a g)) : AllO (burnF pos f a) := by
 cases f with
 | zero => intro p hp; cases hp
 | succ f => exact h f
theorem allO_items {pos : Int} {go : Va → Nat → Ev.Rs} (h : ∀ x f, Va.sm x → AllO (go x f)) : ∀ (l : Vl) f, (∀ i x, l.get i = some x → Va.sm x) → AllO (itemsF pos go l f)
 | .nil, f, _ => fun p hp => by cases hp
 | .cons x i r, f, hl => allO_seq (allO_burn fun g => h _ g (hl 0 _ rfl)) fun f => allO_items h r f fun i x hx => hl (i + 1) x hx
theorem allO_ev {D : ByteArray → Pt} {C : Nat} (hD : ∀ n, (D n).wf) : ∀ n dot root deep h k e f, Va.sm dot → Va.sm root → h.wf → k.wf → e.wf → AllO (evF D C n dot root deep h k e f)
 | 0, dot, root, deep, h, k, e, f, _, _, _, _, _ => fun p hp => by cases hp
 | n + 1, dot, root, deep, h, k, e, f, hd, hr, hh, hk, he => by
   have IL : ∀ dot root deep l f, Va.sm dot → Va.sm root → l.wf → AllO (listF (evF D C n dot root deep) l f) := fun dot root deep l f h1 h2 h3 => allO_list (fun x k e f q1 q2 q3 => allO_ev hD n dot root deep x k e f h1 h2 q1 q2 q3) l f h3
   simp only [evF]
   refine allO_burn fun f => ?_
   split
   · intro p hp
     obtain rfl := List.mem_singleton.1 hp
     exact ⟨zero_sm, hh.2.1, hh.2.2.1⟩
   · cases hg : getF h.names (if h.root = true then root else dot) with
     | error x => intro p hp; cases hp
     | ok v =>
       have hv : Va.sm v := getF_sm _ _ _ hg (by split; exact hr; exact hd)
       dsimp only
       split
       · intro p hp
         obtain rfl := List.mem_singleton.1 hp
         exact ⟨hv, hh.2.1, hh.2.2.1⟩
       · split
         · exact IL _ _ _ _ _ hd hr (by split; exact hk; exact he)
         · split
           · split
             · split
               · exact IL _ _ _ _ _ hd hr he
               · exact allO_items (fun x f hx => IL _ _ _ _ _ hx hr hk) _ _ fun i x hx => Va.sm_get hv hx
             · intro p hp; cases hp
           · split
             · intro p hp; cases hp
             · exact IL _ _ _ _ _ hv hv (hD _)
theorem defF_wf {l : List Df} (h : ∀ d ∈ l, d.kids.wf) (n : ByteArray) : (defF l n).wf := by
 by_cases hn : defF l n = .nil
 · rw [hn]; exact trivial
 · obtain ⟨d, hd, he⟩ := defF_mem hn
   rw [← he]
   exact h d hd
theorem endF_out (r : Ev.Rs) : (endF r).1 = r.out := by unfold endF; split <;> rfl
theorem run_out {t : Tm} (hw : TmW t) {v : Va} (hv : Va.sm v) (fuel calls : Int) : (∀ p ∈ (Ev.runT t v fuel calls).1, Pc.ok p) ∧ (Ev.runT t v fuel calls).1.length ≤ 1000000 := by
 unfold Ev.runT
 split
 · exact ⟨fun p hp => (by cases hp), Nat.zero_le _⟩
 · split
   · exact ⟨fun p hp => (by cases hp), Nat.zero_le _⟩
   · rw [endF_out]
     refine ⟨allO_list (fun x k e f q1 q2 q3 => allO_ev (defF_wf fun d hd => (hw.defs d hd).2.1) _ v v 0 x k e f hv hv q1 q2 q3) _ _ hw.main.1, ?_⟩
     have h1 := cost_list (one := evF (defF t.defs) (clampF 256 calls) (clampF 1000000 fuel) v v 0) (F := clampF 1000000 fuel) (fun x k e f _ => cost_ev _ v v 0 x k e f) t.main (clampF 1000000 fuel) (Nat.le_refl _)
     have h2 := clamp_le 1000000 fuel
     show (runF _ _ _ _ _).out.length ≤ _
     unfold runF
     omega
attribute [local go_sem ↓] Go.wp_at_zero Go.wp_at_succ
def FarR (t : Tm) (v : Va) (w : World) (e : Ending) (w' : World) : Prop := ∃ b : Bool, e = .returned (.bool b) ∧ (b = false → wtT t ≤ 2048 ∧ wvF 2048 v ≤ 2048) ∧ Below w.heap.size w w'
set_option maxRecDepth 100000 in
set_option maxHeartbeats 8000000 in
theorem far_calls (t : Tm) (ht : TmW t) (v : Va) (hv : Va.wf v) (am ad a1 a2 : Option Addr) (cm cd c1 c2 : Nat) (w : World) (hp : Parts (· < w.heap.size) w (.slice am t.main.len cm) t.main) (hd : Defs (· < w.heap.size) w (.slice ad t.defs.length cd) t.defs) (hx : ValS (· < w.heap.size) w v a1 c1 a2 c2) :
 Calls Tryz.prog 9 #[.agg #[.slice am t.main.len cm, .slice ad t.defs.length cd], .agg #[.int .u8 (v.h.kind : Nat), .bool v.h.b, .int .i64 v.h.n, .int .u64 (v.h.bits : Nat), .string v.h.text, .slice a1 v.h.keys.length c1, .slice a2 v.items.len c2]] w (FarR t v w) := by
 have WT : Hid (∀ W, Below w.heap.size w W → Calls Tryz.prog 27 #[.agg #[.slice am t.main.len cm, .slice ad t.defs.length cd], .int .i64 2048] W (WgTP 2048 t W)) := fun W hW => weighTemplate_calls t 2048 (by decide) ht _ _ _ W (hp.kept (Kept.of_below hW)) (hd.kept (Kept.of_below hW))
 have WV : Hid (∀ W, Below w.heap.size w W → Calls Tryz.prog 24 #[.agg #[.int .u8 (v.h.kind : Nat), .bool v.h.b, .int .i64 v.h.n, .int .u64 (v.h.bits : Nat), .string v.h.text, .slice a1 v.h.keys.length c1, .slice a2 v.items.len c2], .int .i64 2048] W (WvP 2048 v W)) := fun W hW => weighValue_calls v 2048 (by decide) _ _ W hv (hx.kept (Kept.of_below hW)).val
 clear hp hd hx ht hv
 have HT : Hid (∀ W0, ((w.alloc (.cells #[.slice am t.main.len cm, .slice ad t.defs.length cd] 25)).alloc (.cells #[.int .u8 (v.h.kind : Nat), .bool v.h.b, .int .i64 v.h.n, .int .u64 (v.h.bits : Nat), .string v.h.text, .slice a1 v.h.keys.length c1, .slice a2 v.items.len c2] 31)) = W0 → Below w.heap.size w W0 ∧ W0.heap.size = w.heap.size + 2 ∧ W0.heap[w.heap.size]? = some (.cells #[.slice am t.main.len cm, .slice ad t.defs.length cd] 25 (0, 0)) ∧ W0.heap[w.heap.size + 1]? = some (.cells #[.int .u8 (v.h.kind : Nat), .bool v.h.b, .int .i64 v.h.n, .int .u64 (v.h.bits : Nat), .string v.h.text, .slice a1 v.h.keys.length c1, .slice a2 v.items.len c2] 31 (0, 0))) := by
  rintro W0 rfl
  have n0 := heap_alloc_new w (.cells #[.slice am t.main.len cm, .slice ad t.defs.length cd] 25)
  have n1 := heap_alloc_new (w.alloc (.cells #[.slice am t.main.len cm, .slice ad t.defs.length cd] 25)) (.cells #[.int .u8 (v.h.kind : Nat), .bool v.h.b, .int .i64 v.h.n, .int .u64 (v.h.bits : Nat), .string v.h.text, .slice a1 v.h.keys.length c1, .slice a2 v.items.len c2] 31)
  simp only [World.size_alloc] at n1
  exact ⟨((Below.refl _ w).alloc (Nat.le_refl _) _).alloc (by simp) _, by simp, (Below.heap_alloc _ _ _ (by simp)).trans n0, n1⟩
 go_enter Tryz.func9, Tryz.ntmps9
 go_upto_region 1 with (fail)
 try simp only [Nat.add_assoc, Nat.reduceAdd]
 generalize hWW : World.alloc (World.alloc w _) _ = w0 at *
 obtain ⟨hb0, hz0, ht0, hv0⟩ := HT.out w0 rfl
 clear hWW HT
 have HB0 := Lib.hid hb0
 have HV0 := Lib.hid hv0
 have t0 : w0.cell? ⟨w.heap.size, 0, none⟩ = some (.slice am t.main.len cm) := by rw [cell_of_heap' ht0]; rfl
 have t1 : w0.cell? ⟨w.heap.size, 1, none⟩ = some (.slice ad t.defs.length cd) := by rw [cell_of_heap' ht0]; rfl
 clear hb0 ht0 hv0
 go_wp2_with fail
 refine (WT.out w0 HB0.out).mono ?_
 rintro e w1 ⟨m, rfl, hm, hb1⟩
 have HB1 : Hid (Below w.heap.size w w1) := HB0.out.trans (hb1.mono (by omega))
 have hv1 := (hb1.block _ (by omega)).trans HV0.out
 have HM := Lib.hid hm
 clear hb1 t0 t1 hm
 have v0 : w1.cell? ⟨w.heap.size + 1, 0, none⟩ = some (.int .u8 (v.h.kind : Nat)) := by rw [cell_of_heap' hv1]; rfl
 have v1 : w1.cell? ⟨w.heap.size + 1, 1, none⟩ = some (.bool v.h.b) := by rw [cell_of_heap' hv1]; rfl
 have v2 : w1.cell? ⟨w.heap.size + 1, 2, none⟩ = some (.int .i64 v.h.n) := by rw [cell_of_heap' hv1]; rfl
 have v3 : w1.cell? ⟨w.heap.size + 1, 3, none⟩ = some (.int .u64 (v.h.bits : Nat)) := by rw [cell_of_heap' hv1]; rfl
 have v4 : w1.cell? ⟨w.heap.size + 1, 4, none⟩ = some (.string v.h.text) := by rw [cell_of_heap' hv1]; rfl
 have v5 : w1.cell? ⟨w.heap.size + 1, 5, none⟩ = some (.slice a1 v.h.keys.length c1) := by rw [cell_of_heap' hv1]; rfl
 have v6 : w1.cell? ⟨w.heap.size + 1, 6, none⟩ = some (.slice a2 v.items.len c2) := by rw [cell_of_heap' hv1]; rfl
 clear hv1
 by_cases h1 : m ≤ 2048
 rotate_left
 · have hgd : decide ((2048 : Int) < (m : Int)) = true := decide_eq_true (by omega)
   have hgl : (2048 : Int) < (m : Int) := by omega
   clear h1
   go_wp2_with fail
   go_ret
   exact ⟨true, rfl, fun h => (by cases h), HB1.out⟩
 have hgd : decide ((2048 : Int) < (m : Int)) = false := decide_eq_false (by omega)
 have hgl : ¬ (2048 : Int) < (m : Int) := by omega
 have H1 : Hid (wtT t ≤ 2048) := by have := HM.out h1; unfold Hid; omega
 clear h1
 go_wp2_with fail
 refine (WV.out w1 HB1.out).mono ?_
 rintro e w2 ⟨rfl, hb2⟩
 have HB2 : Hid (Below w.heap.size w w2) := HB1.out.trans (hb2.mono HB1.out.size)
 clear hb2 v0 v1 v2 v3 v4 v5 v6 hgd hgl
 by_cases h2 : wvF 2048 v ≤ 2048
 · have hgd : decide ((2048 : Int) < (wvF 2048 v : Int)) = false := decide_eq_false (by omega)
   have H2 := Lib.hid h2
   clear h2
   go_wp2_with fail
   go_ret
   exact ⟨false, rfl, fun _ => ⟨H1.out, H2.out⟩, HB2.out⟩
 · have hgd : decide ((2048 : Int) < (wvF 2048 v : Int)) = true := decide_eq_true (by omega)
   clear h2
   go_wp2_with fail
   go_ret
   exact ⟨true, rfl, fun h => (by cases h), HB2.out⟩
theorem RowP.lt {ok : Nat → Prop} {w : World} : ∀ (l : List Pc) (b o : Nat), RowP ok w l b o → RowP (fun b => ok b ∧ b < w.heap.size) w l b o := by
 intro l
 induction l with
 | nil => intro b o _; exact trivial
 | cons p r ih => rintro b o ⟨h1, h2, h3⟩; exact ⟨h1, RowX.lt _ _ _ h2, ih b _ h3⟩
def RestPc (ok : Nat → Prop) (a : Option Addr) (w : World) (r : List Pc) (k : Nat) : Prop := r ≠ [] → ∃ b o, a = some ⟨b, o, none⟩ ∧ (ok b ∧ b < w.heap.size) ∧ RowP (fun b => ok b ∧ b < w.heap.size) w r b (o + k * 10)
theorem Pcs.rest {ok : Nat → Prop} {w : World} {v : Value} {l : List Pc} (h : Pcs ok w v l) : ∃ a c, v = .slice a l.length c ∧ l.length ≤ c ∧ c ≤ maxLen ∧ RestPc ok a w l 0 := by
 obtain ⟨a, c, rfl, h1, h2, h3⟩ := h
 refine ⟨a, c, rfl, h1, h2, fun hne => ?_⟩
 obtain ⟨b, o, q1, q2, q3⟩ := h3 hne
 refine ⟨b, o, q1, ⟨q2, ?_⟩, by rw [Nat.zero_mul, Nat.add_zero]; exact RowP.lt _ _ _ q3⟩
 cases l with
 | nil => exact absurd rfl hne
 | cons p r => exact lt_of_cell q3.1.1
theorem hpa_kept {w w3 w4 : World} {v : Value} {l : List Pc} (h : Pcs (Nu w.heap.size w3) w3 v l) (hb : Below w3.heap.size w3 w4) : Pcs (· < w4.heap.size) w4 v l :=
 (h.kept (fun b hb' => hb.block b hb'.2.1)).mono fun b hb' => Nat.lt_of_lt_of_le hb'.2.1 hb.size
def RowXC (ok : Nat → Prop) (w : World) : Vl → List Value → Prop
 | .nil, cs => cs = []
 | .cons h k r, cs => ∃ vk vi cs', cs = [.int .u8 (h.kind : Nat), .bool h.b, .int .i64 h.n, .int .u64 (h.bits : Nat), .string h.text, vk, vi] ++ cs' ∧ Strs ok w vk h.keys ∧ Vals ok w vi k ∧ RowXC ok w r cs'
theorem RowXC.kept {ok : Nat → Prop} {w w' : World} (hk : Kept ok w w') : ∀ (t : Vl) (cs : List Value), RowXC ok w t cs → RowXC ok w' t cs := by
 intro t
 induction t with
 | nil => intro cs h; exact h
 | cons h k r _ ih =>
   rintro cs ⟨vk, vi, cs', rfl, h1, h2, h3⟩
   exact ⟨vk, vi, cs', rfl, h1.kept hk, h2.kept hk, ih _ h3⟩
theorem RowXC.mono {ok ok' : Nat → Prop} {w : World} (hk : ∀ b, ok b → ok' b) : ∀ (t : Vl) (cs : List Value), RowXC ok w t cs → RowXC ok' w t cs := by
 intro t
 induction t with
 | nil => intro cs h; exact h
 | cons h k r _ ih =>
   rintro cs ⟨vk, vi, cs', rfl, h1, h2, h3⟩
   exact ⟨vk, vi, cs', rfl, h1.mono hk, h2.mono hk, ih _ h3⟩
theorem RowXC.len {ok : Nat → Prop} {w : World} : ∀ (t : Vl) (cs : List Value), RowXC ok w t cs → cs.length = t.len * 7 := by
 intro t
 induction t with
 | nil => intro cs h; obtain rfl : cs = [] := h; rfl
 | cons h k r _ ih =>
   rintro cs ⟨vk, vi, cs', rfl, h1, h2, h3⟩
   have := ih _ h3
   simp only [List.length_append, List.length_cons, List.length_nil, Vl.len]; omega
theorem RowXC.row {ok : Nat → Prop} {w : World} : ∀ (t : Vl) (cs : List Value) (b o : Nat), RowXC ok w t cs → (∀ j u, cs[j]? = some u → w.cell? ⟨b, o + j, none⟩ = some u) → RowX ok w t b o := by
 intro t
 induction t with
 | nil => intro cs b o _ _; exact trivial
 | cons h k r _ ih =>
   rintro cs b o ⟨vk, vi, cs', rfl, h1, ⟨a, c, rfl, k1, k2, k3⟩, h3⟩ hc
   refine ⟨⟨hc 0 _ rfl, hc 1 _ rfl, hc 2 _ rfl, hc 3 _ rfl, hc 4 _ rfl, vk, hc 5 _ rfl, h1⟩, ⟨a, c, hc 6 _ rfl, k1, k2, k3⟩, ih cs' b (o + 7) h3 (fun j u hj => ?_)⟩
   have := hc (7 + j) u (by rw [List.getElem?_append_right (by simp)]; simpa using hj)
   rwa [show o + (7 + j) = o + 7 + j by omega] at this
theorem RowXC.app {ok : Nat → Prop} {w : World} (y : Vl) (ds : List Value) (hy : RowXC ok w y ds) : ∀ (t : Vl) (cs : List Value), RowXC ok w t cs → RowXC ok w (Vl.app t y) (cs ++ ds) := by
 intro t
 induction t with
 | nil => intro cs h; obtain rfl : cs = [] := h; exact hy
 | cons h k r _ ih =>
   rintro cs ⟨vk, vi, cs', rfl, h1, h2, h3⟩
   exact ⟨vk, vi, cs' ++ ds, by simp, h1, h2, ih _ h3⟩
def Nv (ok : Nat → Prop) (P Q : Nat) (u : Bool) (w : World) (v : Value) (b : Nat) : Prop := ((u = false ∧ ok b ∧ b < P) ∨ Q ≤ b) ∧ b < w.heap.size ∧ v.ownBlock ≠ some b ∧ (u = true → UnF w b)
def Nr (ok : Nat → Prop) (P Q : Nat) (u : Bool) (w : World) (b : Nat) : Prop := ((u = false ∧ ok b ∧ b < P) ∨ Q ≤ b) ∧ b < w.heap.size ∧ (u = true → UnF w b)
def OutX (ok : Nat → Prop) (P Q : Nat) (u : Bool) (w : World) (v : Value) (t : Vl) : Prop := ∃ cs, w.ownsRow Q 31 7 v t.len cs ∧ RowXC (Nv ok P Q u w v) w t cs
theorem OutX.nil (ok : Nat → Prop) (P Q : Nat) (u : Bool) (w : World) : OutX ok P Q u w (.slice none 0 0) .nil := ⟨[], World.ownsRow_nil _ _ _ _, rfl⟩
theorem OutX.shp {ok : Nat → Prop} {P Q : Nat} {u : Bool} {w : World} {v : Value} {t : Vl} (h : OutX ok P Q u w v t) : ∃ a c, v = .slice a t.len c := by
 obtain ⟨cs, h1, -⟩ := h
 obtain ⟨a, c, rfl, -⟩ := own_elems h1
 exact ⟨_, _, rfl⟩
theorem OutX.below {ok : Nat → Prop} {P Q : Nat} {u : Bool} {w w' : World} {v : Value} {t : Vl} (h : OutX ok P Q u w v t) (hb : Below w.heap.size w w') : OutX ok P Q u w' v t := by
 obtain ⟨cs, h1, h2⟩ := h
 refine ⟨cs, own_kept h1 (fun g hg => hb.block g (own_new h1 g hg).2), ?_⟩
 exact (h2.kept (fun b h => hb.block b h.2.1)).mono (fun b h => ⟨h.1, Nat.lt_of_lt_of_le h.2.1 hb.size, h.2.2.1, fun e => (h.2.2.2 e).same (hb.block b h.2.1)⟩) _ _
theorem OutX.vals {ok : Nat → Prop} {P Q : Nat} {u : Bool} {w : World} {v : Value} {t : Vl} (h : OutX ok P Q u w v t) : Vals (Nr ok P Q u w) w v t := by
 obtain ⟨cs, h1, h2⟩ := h
 have hl := RowXC.len _ _ h2
 rcases h1 with ⟨hl1, ⟨rfl, hn⟩ | ⟨g, cap, cur, rfl, hB, hg, hle, hcap, hsz, ht⟩⟩
 · rw [len_zero' hn]; exact Vals.nil _ _
 · refine ⟨_, _, rfl, hle, hcap, fun hne => ⟨g, 0, rfl, ⟨.inr hB, lt_of_block hg, fun _ => frozen_cells hg⟩, ?_⟩⟩
   refine RowXC.row _ _ _ _ (h2.mono (fun b h => ⟨h.1, h.2.1, h.2.2.2⟩) _ _) fun j x hj => ?_
   rw [Nat.zero_add, cell_of_heap' hg, ← Array.getElem?_toList]
   rw [← ht, List.getElem?_take] at hj
   split at hj
   · exact hj
   · cases hj
theorem app_val {ops : Array Oper} {rest : List Oper} {o : Oper} {a : Act} {w : World} {Q : Exit → Act → World → Prop} (hgd : o.guard = none) (s x : Operand)
 (ho : o.op = .call { callee := .builtin .append, args := #[s, x], argTypes := #[29, 29] })
 (ok : Nat → Prop) (P B : Nat) (u : Bool) (v : Value) (t : Vl) (hs : a.eval s = v) (hown : OutX ok P B u w v t) (h : Vh) (k : Vl) (a1 a2 : Option Addr) (c1 c2 : Nat) (q c : Nat) (hx : a.eval x = .slice (some ⟨q, 0, none⟩) 1 c) (T : TypeId) (fr : Nat × Nat)
 (hq : w.heap[q]? = some (.cells #[.int .u8 (h.kind : Nat), .bool h.b, .int .i64 h.n, .int .u64 (h.bits : Nat), .string h.text, .slice a1 h.keys.length c1, .slice a2 k.len c2] T fr)) (hv : ValS (Nv ok P B u w v) w ⟨h, k⟩ a1 c1 a2 c2) (hlen : t.len ≤ 16777216) (hB : B ≤ w.heap.size)
 (H : ∀ v' w', OutX ok P B u w' v' (Vl.app t (.cons h k .nil)) → Below B w w' → wpList Tryz.prog ops Q rest (a.put o.dst v') w') : wpList Tryz.prog ops Q (o :: rest) a w := by
 obtain ⟨i0, hi, hz0, hz1, hz2⟩ := info_parts infoVal
 obtain ⟨cs, hown, hrow⟩ := hown
 refine wpList_append_lies w hgd s x 29 ho B 31 i0 _ 7 88 Tryz.underlying29 hi hz0 hz1 hz2 (by rfl) (by decide) v t.len cs hs hown ⟨q, 0, none⟩ 1 c [.int .u8 (h.kind : Nat), .bool h.b, .int .i64 h.n, .int .u64 (h.bits : Nat), .string h.text, .slice a1 h.keys.length c1, .slice a2 k.len c2] hx (by rfl) (cells_add hq) ?_ (by decide) (by unfold maxLen; omega) (by omega) hB w.heap.size rfl ?_
 · intro y hy
   simp only [List.mem_cons, List.not_mem_nil, or_false] at hy
   rcases hy with rfl | rfl | rfl | rfl | rfl | rfl | rfl <;> rfl
 · intro g cap w' hown' hgrow hat hlt
   have hkp : Kept (Nv ok P B u w v) w w' := fun b hb => hgrow.block b hb.2.1 (fun e => hb.2.2.1 e.symm)
   have hmn : ∀ b, Nv ok P B u w v b → Nv ok P B u w' (.slice (some ⟨g, 0, none⟩) (t.len + 1) cap) b := fun b hb => ⟨hb.1, Nat.lt_of_lt_of_le hb.2.1 hgrow.size, by
    show some g ≠ some b
    rintro ⟨rfl⟩
    rcases hat with h | h
    · exact hb.2.2.1 h
    · have := hb.2.1; omega, fun e => (hb.2.2.2 e).same (hkp b hb)⟩
   have hy : RowXC (Nv ok P B u w' (.slice (some ⟨g, 0, none⟩) (t.len + 1) cap)) w' (.cons h k .nil) [.int .u8 (h.kind : Nat), .bool h.b, .int .i64 h.n, .int .u64 (h.bits : Nat), .string h.text, .slice a1 h.keys.length c1, .slice a2 k.len c2] :=
    ⟨.slice a1 h.keys.length c1, .slice a2 k.len c2, [], rfl, (hv.1.kept hkp).mono hmn, (hv.2.kept hkp).mono hmn, rfl⟩
   refine H _ w' ⟨cs ++ [.int .u8 (h.kind : Nat), .bool h.b, .int .i64 h.n, .int .u64 (h.bits : Nat), .string h.text, .slice a1 h.keys.length c1, .slice a2 k.len c2], ?_, RowXC.app _ _ hy _ _ ((hrow.kept hkp).mono hmn _ _)⟩ ((Below.refl B w).grown hgrow hB (fun k hk => (World.ownsRow.lt hown k hk).1))
   rw [Vl.len_app]
   exact hown'
theorem Nr.toNv {ok : Nat → Prop} {P Q : Nat} {u : Bool} {wr w2 w3 : World} {v : Value} {t : Vl} (hO : OutX ok P Q u wr v t) (hok : ∀ b, ok b → b < P) (hP : P ≤ Q) (hQ : Q ≤ wr.heap.size) (hb : Below w2.heap.size w2 w3) : ∀ b, Nr ok wr.heap.size wr.heap.size u w2 b → Nv ok P Q u w3 v b := by
 intro b h
 obtain ⟨cs, ho, -⟩ := hO
 refine ⟨?_, Nat.lt_of_lt_of_le h.2.1 hb.size, fun e => ?_, fun e => (h.2.2 e).same (hb.block b h.2.1)⟩
 · rcases h.1 with ⟨q1, q2, -⟩ | q
   · exact .inl ⟨q1, q2, hok b q2⟩
   · exact .inr (by omega)
 · have h1 := own_new ho b e
   rcases h.1 with ⟨-, q2, -⟩ | q
   · have := hok b q2; omega
   · omega
def BltR (x : Va) (ok : Nat → Prop) (u : Bool) (w : World) (e : Ending) (w' : World) : Prop := ∃ a1 c1 a2 c2, e = .returned (.agg #[.int .u8 (x.h.kind : Nat), .bool x.h.b, .int .i64 x.h.n, .int .u64 (x.h.bits : Nat), .string x.h.text, .slice a1 x.h.keys.length c1, .slice a2 x.items.len c2]) ∧ ValS (Nr ok w.heap.size w.heap.size u w') w' x a1 c1 a2 c2 ∧ Below w.heap.size w w'
def oT : ByteArray := ⟨#[60, 111, 116, 104, 101, 114, 62]⟩
theorem oth_app (o : ByteArray) (y : Vl) : ∀ x : Vl, othL o (Vl.app x y) = Vl.app (othL o x) (othL o y) := by
 intro x
 induction x with
 | nil => rfl
 | cons h k r _ ih => simp only [Vl.app, othL, ih]
def otSaid (n : Nat) : Prop := ∀ (x : Va), cntX x.items < n → ∀ (ok : Nat → Prop) (v : Value) (w : World), Va.sm x → ValM ok w v x → Calls Tryz.prog 21 #[v] w (BltR (othV oT x) ok false w)
set_option maxRecDepth 100000 in
set_option maxHeartbeats 40000000 in
theorem ot_step (n : Nat) (ih : otSaid n) : otSaid (n + 1) := by
 intro x hn ok v w hsm hx
 obtain ⟨h, its⟩ := x
 obtain ⟨⟨f1, f2, f3, f4, f5, f6, f7⟩, hsi, hci⟩ := hsm
 dsimp only at hn f1 f2 f3 f4 f5 f6 f7 hsi hci
 have hlc := len_le_cntX its
 obtain ⟨vk, vi, rfl, hk, hi⟩ := hx
 dsimp only at hk hi
 obtain ⟨a, c, rfl, h1, h2, h3⟩ := Vals.rest hi
 have HK := Lib.hid hk.lt
 obtain ⟨ak, ck, rfl, -⟩ := hk
 have HX := Lib.hid h3
 have HSI := Lib.hid hsi
 have IH := Lib.hid ih
 clear hi h3 hsi ih f7 f1 f2 f3 f4 h1 h2
 have HB0 : Hid (Below w.heap.size w ((w.alloc (.cells (xCells h (.slice ak h.keys.length ck) (.slice a its.len c)) 31)).alloc (.cells #[.int .u8 0, .bool false, .int .i64 0, .int .u64 0, .string ⟨#[]⟩, .slice none 0 0, .slice none 0 0] 31))) := ((Below.refl _ w).alloc (Nat.le_refl _) _).alloc (by simp) _
 have HS0 : Hid (((w.alloc (.cells (xCells h (.slice ak h.keys.length ck) (.slice a its.len c)) 31)).alloc (.cells #[.int .u8 0, .bool false, .int .i64 0, .int .u64 0, .string ⟨#[]⟩, .slice none 0 0, .slice none 0 0] 31)).heap.size = w.heap.size + 2) := by unfold Hid; simp
 have HT0 : Hid (((w.alloc (.cells (xCells h (.slice ak h.keys.length ck) (.slice a its.len c)) 31)).alloc (.cells #[.int .u8 0, .bool false, .int .i64 0, .int .u64 0, .string ⟨#[]⟩, .slice none 0 0, .slice none 0 0] 31)).heap[w.heap.size]? = some (.cells (xCells h (.slice ak h.keys.length ck) (.slice a its.len c)) 31 (0, 0))) := (Below.heap_alloc _ _ _ (by simp)).trans (heap_alloc_new w _)
 have HR0 : Hid (((w.alloc (.cells (xCells h (.slice ak h.keys.length ck) (.slice a its.len c)) 31)).alloc (.cells #[.int .u8 0, .bool false, .int .i64 0, .int .u64 0, .string ⟨#[]⟩, .slice none 0 0, .slice none 0 0] 31)).heap[w.heap.size + 1]? = some (.cells #[.int .u8 0, .bool false, .int .i64 0, .int .u64 0, .string ⟨#[]⟩, .slice none 0 0, .slice none 0 0] 31 (0, 0))) := by
  have := heap_alloc_new (w.alloc (.cells (xCells h (.slice ak h.keys.length ck) (.slice a its.len c)) 31)) (.cells #[.int .u8 0, .bool false, .int .i64 0, .int .u64 0, .string ⟨#[]⟩, .slice none 0 0, .slice none 0 0] 31)
  rwa [show (w.alloc (.cells (xCells h (.slice ak h.keys.length ck) (.slice a its.len c)) 31)).heap.size = w.heap.size + 1 by simp] at this
 unfold xCells at HB0 HS0 HT0 HR0
 go_enter Tryz.func21, Tryz.ntmps21
 go_upto_region 1 with (fail)
 generalize hWW : World.alloc (World.alloc w _) _ = W0 at *
 clear hWW
 have x0 : W0.cell? ⟨w.heap.size, 0, none⟩ = some (.int .u8 (h.kind : Nat)) := by rw [cell_of_heap' HT0.out]; rfl
 have x4 : W0.cell? ⟨w.heap.size, 4, none⟩ = some (.string h.text) := by rw [cell_of_heap' HT0.out]; rfl
 have z4 := frozen_cells HT0.out
 have hz0 := HS0.out
 have HKY0 : Hid (∀ W, Below w.heap.size w W → w.heap.size + 2 ≤ W.heap.size → Strs (Nr (fun b => ok b ∧ b < w.heap.size) w.heap.size (w.heap.size + 2) false W) W (.slice ak h.keys.length ck) h.keys) := fun W hW hs => (HK.out.kept (fun b hb => hW.block b hb.2)).mono fun b hb => ⟨.inl ⟨rfl, hb, hb.2⟩, by have := hb.2; omega, fun e => by cases e⟩
 by_cases k5 : h.kind = 5
 rotate_left
 have hk5 : ((h.kind : Int) == 5) = false := beq_eq_false_iff_ne.2 (by omega)
 go_upto_region 3 with (fail)
 obtain ⟨tx, htx⟩ : ∃ tx, tx = h.text := ⟨_, rfl⟩
 have HTX : Hid (othH oT h = { h with text := tx }) := by subst htx; unfold Hid othH; rw [if_neg (fun q => k5 q.1)]
 clear x0 x4 z4
 try clear ht
 try clear hk5
 clear k5
 rw [← htx] at HT0
 have HP1 := HT0
 have HR1 := HR0
 have HB1 := HB0
 have hz1 : w.heap.size + 2 ≤ W0.heap.size := by omega
 have HKY := Lib.hid (HKY0.out W0 HB0.out hz1)
 obtain ⟨W1, hW1⟩ : ∃ W1, W1 = W0 := ⟨_, rfl⟩
 clear htx HT0 HR0 HB0 HS0 hz0 HKY0 HK
 subst hW1
 rotate_left
 have hk5 : ((h.kind : Int) == 5) = true := beq_iff_eq.2 (by omega)
 go_upto_region 3 with (fail)
 have hcd : (!h.text.toList.isEmpty) = true := by assumption
 have ht : h.text.size ≠ 0 := fun e => by rw [size0 h.text e, ByteArray.toList_eq] at hcd; exact absurd hcd (by decide)
 generalize (!h.text.toList.isEmpty) = bb at *
 subst hcd
 have HTX : Hid (othH oT h = { h with text := h.text ++ ⟨#[60, 111, 116, 104, 101, 114, 62]⟩ }) := by unfold Hid othH; rw [if_pos ⟨k5, ht⟩]; rfl
 have HP1 : Hid ((W0.setCell ⟨w.heap.size, 4, none⟩ (.string (h.text ++ ⟨#[60, 111, 116, 104, 101, 114, 62]⟩))).heap[w.heap.size]? = some (.cells #[.int .u8 (h.kind : Nat), .bool h.b, .int .i64 h.n, .int .u64 (h.bits : Nat), .string (h.text ++ ⟨#[60, 111, 116, 104, 101, 114, 62]⟩), .slice ak h.keys.length ck, .slice a its.len c] 31 (0, 0))) := set_cells (j := 4) HT0.out _
 have HR1 : Hid ((W0.setCell ⟨w.heap.size, 4, none⟩ (.string (h.text ++ ⟨#[60, 111, 116, 104, 101, 114, 62]⟩))).heap[w.heap.size + 1]? = some (.cells #[.int .u8 0, .bool false, .int .i64 0, .int .u64 0, .string ⟨#[]⟩, .slice none 0 0, .slice none 0 0] 31 (0, 0))) := (Below.heap_setCell _ _ _ _ (by show w.heap.size + 1 ≠ w.heap.size; omega)).trans HR0.out
 have HB1 : Hid (Below w.heap.size w (W0.setCell ⟨w.heap.size, 4, none⟩ (.string (h.text ++ ⟨#[60, 111, 116, 104, 101, 114, 62]⟩)))) := HB0.out.setCell (p := ⟨w.heap.size, 4, none⟩) (Nat.le_refl _) _
 have hz1 : w.heap.size + 2 ≤ (W0.setCell ⟨w.heap.size, 4, none⟩ (.string (h.text ++ ⟨#[60, 111, 116, 104, 101, 114, 62]⟩))).heap.size := by simp [World.setCell]; omega
 have HKY := Lib.hid (HKY0.out _ HB1.out hz1)
 clear x0 x4 z4 ht hk5 k5 HT0 HR0 HB0 HS0 hz0 HKY0 HK
 generalize World.setCell W0 _ _ = W1 at *
 generalize (h.text ++ ⟨#[60, 111, 116, 104, 101, 114, 62]⟩ : ByteArray) = tx at *
 rotate_left
 have hcd : (!h.text.toList.isEmpty) = false := by assumption
 have ht : h.text.size = 0 := by
  rcases Nat.eq_zero_or_pos h.text.size with e | e
  · exact e
  · rw [ne_str h.text e] at hcd; cases hcd
 generalize (!h.text.toList.isEmpty) = bb at *
 subst hcd
 obtain ⟨tx, htx⟩ : ∃ tx, tx = h.text := ⟨_, rfl⟩
 have HTX : Hid (othH oT h = { h with text := tx }) := by subst htx; unfold Hid othH; rw [if_neg (fun q => q.2 ht)]
 clear x0 x4 z4
 try clear ht
 try clear hk5
 clear k5
 rw [← htx] at HT0
 have HP1 := HT0
 have HR1 := HR0
 have HB1 := HB0
 have hz1 : w.heap.size + 2 ≤ W0.heap.size := by omega
 have HKY := Lib.hid (HKY0.out W0 HB0.out hz1)
 obtain ⟨W1, hW1⟩ : ∃ W1, W1 = W0 := ⟨_, rfl⟩
 clear htx HT0 HR0 HB0 HS0 hz0 HKY0 HK
 subst hW1
 all_goals
  have hb1 := HB1.out.size
  go_wp2_with fail
  go_loopw [3, 4] (fun v3 v4 wr => ∃ (k : Nat) (oa : Option Addr) (oc : Nat) (d r : Vl), v3 = .slice oa k oc ∧ v4 = .int .i64 (k : Nat) ∧ k + r.len = its.len ∧ d.len = k ∧ Hid (OutX (fun b => ok b ∧ b < w.heap.size) w.heap.size W1.heap.size false wr v3 (othL oT d)) ∧ Hid (Vl.app d r = its) ∧ Hid (RestX ok a w r k) ∧ cntX r ≤ cntX its ∧ Hid (smX r) ∧ Hid (Below W1.heap.size W1 wr)) (fun _ i _ => its.len - (intOf i).toNat)
  case atStart => exact ⟨0, none, 0, .nil, its, rfl, rfl, by omega, rfl, OutX.nil _ _ _ _ _, rfl, HX, Nat.le_refl _, HSI, Below.refl _ _⟩
  case round =>
   obtain ⟨k, oa, oc, d, r, rfl, rfl, hk, hdl, HO, HD, HRX, hcn, HSR, HQ⟩ := hrel
   have hzr := HQ.out.size
   have HB : Hid (Below w.heap.size w wr) := HB1.out.trans (HQ.out.mono hb1)
   have HP := Lib.hid ((HQ.out.block _ (by omega)).trans HP1.out)
   have HR := Lib.hid ((HQ.out.block _ (by omega)).trans HR1.out)
   have p6 : wr.cell? ⟨w.heap.size, 6, none⟩ = some (.slice a its.len c) := by rw [cell_of_heap' HP.out]; rfl
   cases r with
   | nil =>
     simp only [Vl.len] at hk
     have hge : ¬ (k : Int) < (its.len : Int) := by omega
     have HE : Hid (d = its) := by have := HD.out; rwa [Vl.app_nil] at this
     have pz := frozen_cells HP.out
     have HP2 : Hid ((wr.setCell ⟨w.heap.size, 6, none⟩ (.slice oa k oc)).heap[w.heap.size]? = some (.cells #[.int .u8 (h.kind : Nat), .bool h.b, .int .i64 h.n, .int .u64 (h.bits : Nat), .string tx, .slice ak h.keys.length ck, .slice oa k oc] 31 (0, 0))) := set_cells (j := 6) HP.out _
     have HQ2 : Hid (∀ b, b ≠ w.heap.size → (wr.setCell ⟨w.heap.size, 6, none⟩ (.slice oa k oc)).heap[b]? = wr.heap[b]?) := fun b hb => Below.heap_setCell _ _ _ _ hb
     have HY2 : Hid ((wr.setCell ⟨w.heap.size, 6, none⟩ (.slice oa k oc)).heap.size = wr.heap.size) := by unfold Hid; simp [World.setCell]
     have HB2 : Hid (Below w.heap.size w (wr.setCell ⟨w.heap.size, 6, none⟩ (.slice oa k oc))) := HB.out.setCell (p := ⟨w.heap.size, 6, none⟩) (Nat.le_refl _) _
     go_upto_region 9 with (fail)
     clear p6 pz
     generalize hWW : World.setCell wr _ _ = W2 at *
     clear hWW
     have HR2 := Lib.hid ((HQ2.out (w.heap.size + 1) (by omega)).trans HR.out)
     have p0 : W2.cell? ⟨w.heap.size, 0, none⟩ = some (.int .u8 (h.kind : Nat)) := by rw [cell_of_heap' HP2.out]; rfl
     have p1 : W2.cell? ⟨w.heap.size, 1, none⟩ = some (.bool h.b) := by rw [cell_of_heap' HP2.out]; rfl
     have p2 : W2.cell? ⟨w.heap.size, 2, none⟩ = some (.int .i64 h.n) := by rw [cell_of_heap' HP2.out]; rfl
     have p3 : W2.cell? ⟨w.heap.size, 3, none⟩ = some (.int .u64 (h.bits : Nat)) := by rw [cell_of_heap' HP2.out]; rfl
     have p4 : W2.cell? ⟨w.heap.size, 4, none⟩ = some (.string tx) := by rw [cell_of_heap' HP2.out]; rfl
     have p5 : W2.cell? ⟨w.heap.size, 5, none⟩ = some (.slice ak h.keys.length ck) := by rw [cell_of_heap' HP2.out]; rfl
     have p6 : W2.cell? ⟨w.heap.size, 6, none⟩ = some (.slice oa k oc) := by rw [cell_of_heap' HP2.out]; rfl
     have r0 : W2.cell? ⟨w.heap.size + 1, 0, none⟩ = some (.int .u8 0) := by rw [cell_of_heap' HR2.out]; rfl
     have r1 : W2.cell? ⟨w.heap.size + 1, 1, none⟩ = some (.bool false) := by rw [cell_of_heap' HR2.out]; rfl
     have r2 : W2.cell? ⟨w.heap.size + 1, 2, none⟩ = some (.int .i64 0) := by rw [cell_of_heap' HR2.out]; rfl
     have r3 : W2.cell? ⟨w.heap.size + 1, 3, none⟩ = some (.int .u64 0) := by rw [cell_of_heap' HR2.out]; rfl
     have r4 : W2.cell? ⟨w.heap.size + 1, 4, none⟩ = some (.string ⟨#[]⟩) := by rw [cell_of_heap' HR2.out]; rfl
     have r5 : W2.cell? ⟨w.heap.size + 1, 5, none⟩ = some (.slice none 0 0) := by rw [cell_of_heap' HR2.out]; rfl
     have r6 : W2.cell? ⟨w.heap.size + 1, 6, none⟩ = some (.slice none 0 0) := by rw [cell_of_heap' HR2.out]; rfl
     have rz := frozen_cells HR2.out
     have HST := Lib.hid (set7 (w := W2) (g := w.heap.size + 1) (p := 0) (.int .u8 (h.kind : Nat)) (.bool h.b) (.int .i64 h.n) (.int .u64 (h.bits : Nat)) (.string tx) (.slice ak h.keys.length ck) (.slice oa k oc) r0 r1 r2 r3 r4 r5 r6)
     simp only [Nat.zero_add] at HST
     go_wp2_with fail
     generalize hWW : World.setCell _ _ _ = W3 at *
     clear hWW
     have hoff : ∀ b, b ≠ w.heap.size → b ≠ w.heap.size + 1 → W3.heap[b]? = wr.heap[b]? := fun b hb hb2 => (HST.out.oth b hb2).trans (HQ2.out b hb)
     have hsz : W3.heap.size = wr.heap.size := HST.out.size.trans HY2.out
     have hnr : ∀ Q b, w.heap.size + 2 ≤ Q → Nr (fun b => ok b ∧ b < w.heap.size) w.heap.size Q false wr b → (b ≠ w.heap.size ∧ b ≠ w.heap.size + 1) ∧ Nr ok w.heap.size w.heap.size false W3 b := fun Q b hQ hb => by
      have hne : b ≠ w.heap.size ∧ b ≠ w.heap.size + 1 := by rcases hb.1 with ⟨-, -, h⟩ | h <;> omega
      exact ⟨hne, hb.1.imp (fun q => ⟨q.1, q.2.1.1, q.2.2⟩) (fun q => by omega), by rw [hsz]; exact hb.2.1, fun e => (hb.2.2 e).same (hoff b hne.1 hne.2)⟩
     have hvs : Vals (Nr ok w.heap.size w.heap.size false W3) W3 (.slice oa k oc) (othL oT its) := by
      have q := HO.out.vals
      rw [HE.out] at q
      exact (q.kept (fun b hb => have h2 := (hnr _ b (by omega) hb).1; hoff b h2.1 h2.2)).mono fun b hb => (hnr _ b (by omega) hb).2
     have hks : Strs (Nr ok w.heap.size w.heap.size false W3) W3 (.slice ak h.keys.length ck) h.keys := by
      have q := HKY.out.kept (fun b hb => HQ.out.block b hb.2.1)
      have hm : ∀ b, Nr (fun b => ok b ∧ b < w.heap.size) w.heap.size (w.heap.size + 2) false W1 b → Nr (fun b => ok b ∧ b < w.heap.size) w.heap.size (w.heap.size + 2) false wr b := fun b hb => ⟨hb.1, Nat.lt_of_lt_of_le hb.2.1 hzr, fun e => (hb.2.2 e).same (HQ.out.block b hb.2.1)⟩
      exact ((q.mono hm).kept (fun b hb => have h2 := (hnr _ b (Nat.le_refl _) hb).1; hoff b h2.1 h2.2)).mono fun b hb => (hnr _ b (Nat.le_refl _) hb).2
     have hB3 : Below w.heap.size w W3 := HB2.out.trans (HST.out.below (by omega))
     refine ⟨rfl, _, results_val rfl rfl HST.out.is, ?_⟩
     obtain ⟨_, _, he, -⟩ := id hvs
     cases he
     unfold BltR othV
     dsimp only
     rw [HTX.out]
     exact ⟨ak, ck, oa, oc, rfl, ⟨hks, hvs⟩, hB3⟩
   | cons gh kd r =>
     simp only [Vl.len] at hk
     simp only [cntX] at hcn
     have hlt' : (k : Int) < (its.len : Int) := by omega
     have hk0 : (0 : Int) ≤ (k : Int) := by omega
     obtain ⟨b, o, rfl, hb, hrow⟩ := HRX.out (by simp)
     have HRS : Hid (RestX ok (some ⟨b, o, none⟩) w r (k + 1)) := fun _ => ⟨b, o, rfl, hb, by have := hrow.2.2; rwa [show o + k * 7 + 7 = o + (k + 1) * 7 by omega] at this⟩
     obtain ⟨⟨c0, c1, c2, c3, c4, v5, c5, hs5⟩, ⟨ag, cg, c6, k1, k2, k3⟩, -⟩ := RowX.kept (fun b hb => HB.out.block b hb.2) _ _ _ hb hrow
     obtain ⟨hsg, hsk, hsr⟩ := HSR.out
     have HSR2 := Lib.hid hsr
     have hsw := HB.out.size
     obtain ⟨⟨yh, yk⟩, hy⟩ : ∃ y : Va, (othV oT ⟨gh, kd⟩) = y := ⟨_, rfl⟩
     have KC : Hid (∀ W, Below wr.heap.size wr W → Calls Tryz.prog 21 #[.agg #[.int .u8 (gh.kind : Nat), .bool gh.b, .int .i64 gh.n, .int .u64 (gh.bits : Nat), .string gh.text, v5, .slice ag kd.len cg]] W (BltR ⟨yh, yk⟩ (fun b => ok b ∧ b < w.heap.size) false W)) := fun W hW => by
      rw [← hy]
      exact IH.out ⟨gh, kd⟩ (by show cntX kd < n; omega) (fun b => ok b ∧ b < w.heap.size) _ W ⟨hsg, hsk, by show cntX kd ≤ _; omega⟩ (ValM.kept ⟨_, _, rfl, hs5, ag, cg, rfl, k1, k2, k3⟩ (fun b hb => hW.block b (by have := hb.2; omega)))
     have HY := Lib.hid hy
     obtain ⟨av5, cv5, rfl⟩ := hs5.cases
     have HKI := Lib.hid hk
     clear hrow k3 hsg hsk hsr hk hy
     have hki : k + 1 + r.len ≤ its.len := by have := HKI.out; omega
     go_wp2_with fail
     refine (KC.out wr (Below.refl _ _)).mono ?_
     rintro e w2 ⟨n1, m1, n2, m2, rfl, hv2, hb2⟩
     have HV2 := Lib.hid hv2
     have HB2 := Lib.hid hb2
     clear hv2 hb2 KC c0 c1 c2 c3 c4 c5 c6 p6
     have HO2 : Hid (OutX (fun b => ok b ∧ b < w.heap.size) w.heap.size W1.heap.size false w2 (.slice oa k oc) (othL oT d)) := HO.out.below HB2.out
     have HA3 : Hid (Below w2.heap.size w2 (w2.alloc (.cells #[.int .u8 (yh.kind : Nat), .bool yh.b, .int .i64 yh.n, .int .u64 (yh.bits : Nat), .string yh.text, .slice n1 yh.keys.length m1, .slice n2 yk.len m2] 31))) := (Below.refl _ w2).alloc (Nat.le_refl _) _
     have HVN : Hid (ValS (Nv (fun b => ok b ∧ b < w.heap.size) w.heap.size W1.heap.size false (w2.alloc (.cells #[.int .u8 (yh.kind : Nat), .bool yh.b, .int .i64 yh.n, .int .u64 (yh.bits : Nat), .string yh.text, .slice n1 yh.keys.length m1, .slice n2 yk.len m2] 31)) (.slice oa k oc)) (w2.alloc (.cells #[.int .u8 (yh.kind : Nat), .bool yh.b, .int .i64 yh.n, .int .u64 (yh.bits : Nat), .string yh.text, .slice n1 yh.keys.length m1, .slice n2 yk.len m2] 31)) ⟨yh, yk⟩ n1 m1 n2 m2) :=
      (HV2.out.kept (fun b hb => HA3.out.block b hb.2.1)).mono (Nr.toNv HO.out (fun b hb => hb.2) (by omega) (by omega) HA3.out)
     have hdl2 : ((othL oT d)).len ≤ 16777216 := by rw [oth_len]; omega
     have hz2 : wr.heap.size ≤ w2.heap.size := HB2.out.size
     go_wp2_with (at_builtin; refine app_val rfl _ _ rfl (fun b => ok b ∧ b < w.heap.size) w.heap.size W1.heap.size false (.slice oa k oc) (othL oT d) rfl (HO2.out.below HA3.out) yh yk n1 n2 m1 m2 w2.heap.size 1 rfl 31 (0, 0) (heap_alloc_new w2 _) HVN.out hdl2 (by simp; omega) ?_; intro v6 w4 hO4 hb4; obtain ⟨a6, c6, rfl⟩ := hO4.shp; have HO4 := Lib.hid hO4; have HB4 : Hid (Below W1.heap.size W1 w4) := ((HQ.out.trans (HB2.out.mono (by omega))).trans (HA3.out.mono (by omega))).trans hb4; clear hO4 hb4)
     have HLN : Hid ((Vl.app (othL oT d) (.cons yh yk .nil)).len = k + 1) := by unfold Hid; rw [Vl.len_app]; rw [oth_len]; simp only [Vl.len]; omega
     have HREL : Hid (∃ (k' : Nat) (oa' : Option Addr) (oc' : Nat) (d' r' : Vl), Value.slice a6 (Vl.app (othL oT d) (.cons yh yk .nil)).len c6 = .slice oa' k' oc' ∧ Value.int .i64 ((k : Int) + 1) = .int .i64 (k' : Nat) ∧ k' + r'.len = its.len ∧ d'.len = k' ∧ Hid (OutX (fun b => ok b ∧ b < w.heap.size) w.heap.size W1.heap.size false w4 (.slice a6 (Vl.app (othL oT d) (.cons yh yk .nil)).len c6) (othL oT d')) ∧ Hid (Vl.app d' r' = its) ∧ Hid (RestX ok (some ⟨b, o, none⟩) w r' k') ∧ cntX r' ≤ cntX its ∧ Hid (smX r') ∧ Hid (Below W1.heap.size W1 w4)) := ⟨k + 1, a6, c6, Vl.app d (.cons gh kd .nil), r, by rw [HLN.out], by go_num, by have := HKI.out; omega, by rw [Vl.len_app]; simp only [Vl.len]; omega, by unfold Hid; rw [oth_app, show othL oT (.cons gh kd .nil) = .cons yh yk .nil by have q := HY.out; unfold othV at q; injection q with q1 q2; simp only [othL]; rw [← q1, ← q2]]; exact HO4.out, by unfold Hid; rw [Vl.app_one]; exact HD.out, HRS, by omega, HSR2, HB4⟩
     first
     | exact ⟨HREL.out, by simp [intOf]; have := HKI.out; omega⟩
     | exact ⟨⟨_, _, _, _, _, _, _, _, _, _, _, _, _, _, _, _, _, _, HREL.out, rfl⟩, by simp [intOf]; have := HKI.out; omega⟩
theorem ot_all (n : Nat) : otSaid n := by
 induction n with
 | zero => intro x h; exact absurd h (Nat.not_lt_zero _)
 | succ n ih => exact ot_step n ih
theorem othv_calls (x : Va) (ok : Nat → Prop) (v : Value) (w : World) (hs : Va.sm x) (hx : ValM ok w v x) : Calls Tryz.prog 21 #[v] w (BltR (othV oT x) ok false w) :=
 ot_all (cntX x.items + 1) x (Nat.lt_succ_self _) ok v w hs hx
def Ints (ok : Nat → Prop) (w : World) (v : Value) (l : List Int) : Prop := ∃ (a : Option Addr) (c : Nat), v = .slice a l.length c ∧ (l ≠ [] → ∃ b o, a = some ⟨b, o, none⟩ ∧ ok b ∧ b < w.heap.size ∧ ∀ (i : Nat) n, l[i]? = some n → w.cell? ⟨b, o + i, none⟩ = some (.int .i64 n))
theorem Ints.kept {ok : Nat → Prop} {w w' : World} {v : Value} {l : List Int} (h : Ints ok w v l) (hk : Kept ok w w') (hs : w.heap.size ≤ w'.heap.size) : Ints ok w' v l := by
 obtain ⟨a, c, hv, h3⟩ := h
 refine ⟨a, c, hv, fun hn => ?_⟩
 obtain ⟨b, o, ha, hb, hlt, hc⟩ := h3 hn
 exact ⟨b, o, ha, hb, Nat.lt_of_lt_of_le hlt hs, fun i n hi => (hk.cell hb _).trans (hc i n hi)⟩
theorem Ints.mono {ok ok' : Nat → Prop} {w : World} {v : Value} {l : List Int} (h : Ints ok w v l) (hk : ∀ b, ok b → ok' b) : Ints ok' w v l := by
 obtain ⟨a, c, hv, h3⟩ := h
 refine ⟨a, c, hv, fun hn => ?_⟩
 obtain ⟨b, o, ha, hb, hlt, hc⟩ := h3 hn
 exact ⟨b, o, ha, hk b hb, hlt, hc⟩
theorem Ints.lt {ok : Nat → Prop} {w : World} {v : Value} {l : List Int} (h : Ints ok w v l) : Ints (fun b => ok b ∧ b < w.heap.size) w v l := by
 obtain ⟨a, c, hv, h3⟩ := h
 refine ⟨a, c, hv, fun hn => ?_⟩
 obtain ⟨b, o, ha, hb, hlt, hc⟩ := h3 hn
 exact ⟨b, o, ha, ⟨hb, hlt⟩, hlt, hc⟩
set_option maxHeartbeats 4000000 in
theorem sameInts_calls (ok ok' : Nat → Prop) (l : List Int) (hl : l.length ≤ 140737488351232) (v v' : Value) (w : World) (h : Ints ok w v l) (h' : Ints ok' w v' l) :
 Calls Tryz.prog 19 #[v, v'] w fun e w' => e = .returned (.bool true) ∧ Below w.heap.size w w' := by
 obtain ⟨a, c, rfl, h3⟩ := h
 obtain ⟨a', c', rfl, h3'⟩ := h'
 have H3 := Lib.hid h3
 have H3' := Lib.hid h3'
 clear h3 h3'
 go_enter Tryz.func19, Tryz.ntmps19
 go_wp2_with fail
 go_loopw [5] (fun i wr => ∃ k : Nat, i = .int .i64 k ∧ k ≤ l.length ∧ Hid (Below w.heap.size w wr)) (fun i _ => l.length - (intOf i).toNat)
 case atStart => exact ⟨0, rfl, Nat.zero_le _, Below.refl _ _⟩
 case round =>
  obtain ⟨k, rfl, hk, HB⟩ := hrel
  by_cases hlt : k < l.length
  · have hlt' : (k : Int) < (l.length : Int) := by omega
    have hne : l ≠ [] := by intro e; rw [e] at hlt; simp at hlt
    obtain ⟨s, hsk⟩ : ∃ s, l[k]? = some s := ⟨_, List.getElem?_eq_getElem hlt⟩
    obtain ⟨b, o, rfl, -, hb, hc⟩ := H3.out hne
    obtain ⟨b', o', rfl, -, hb', hc'⟩ := H3'.out hne
    have c1 : wr.cell? ⟨b, o + k, none⟩ = some (.int .i64 s) := (HB.out.cell (p := ⟨b, o + k, none⟩) hb).trans (hc k s hsk)
    have c2 : wr.cell? ⟨b', o' + k, none⟩ = some (.int .i64 s) := (HB.out.cell (p := ⟨b', o' + k, none⟩) hb').trans (hc' k s hsk)
    have hk0 : (0 : Int) ≤ (k : Int) := by omega
    clear hc hc' hsk hlt hne
    go_wp2_with fail
    go_quiet (fail)
    go_wp2_with fail
    go_roundw
    case rel => exact ⟨k + 1, by go_num, by omega, below_drewN HB.out _⟩
    case measure => simp [intOf]; omega
  · have hge : ¬ (k : Int) < (l.length : Int) := by omega
    go_wp2_with fail
    go_ret
    exact ⟨rfl, HB.out⟩
theorem infoInt : (Tryz.prog.info? 3).map (fun i => (i.zero, i.size, i.bytes)) = some (some (.int .i64 0), 1, 8) := by kernel_rfl
def OutI (B : Nat) (w : World) (v : Value) (l : List Int) : Prop := w.ownsRow B 3 1 v l.length (l.map (Value.int .i64))
theorem OutI.nil (B : Nat) (w : World) : OutI B w (.slice none 0 0) [] := World.ownsRow_nil _ _ _ _
theorem OutI.below {B : Nat} {w w' : World} {v : Value} {l : List Int} (h : OutI B w v l) (hb : Below w.heap.size w w') : OutI B w' v l := own_kept h (fun g hg => hb.block g (own_new h g hg).2)
theorem OutI.ints {B : Nat} {w : World} {v : Value} {l : List Int} (h : OutI B w v l) : Ints (B ≤ ·) w v l := by
 obtain ⟨a, c, rfl, -, -, h5⟩ := own_elems h
 refine ⟨a, c, rfl, fun hn => ?_⟩
 obtain ⟨g, rfl, hg1, hg2, hc⟩ := h5 (by simpa using hn)
 exact ⟨g, 0, rfl, hg1, hg2, fun i n hi => by rw [Nat.zero_add]; exact hc i _ (by rw [List.getElem?_map, hi]; rfl)⟩
theorem app_int {ops : Array Oper} {rest : List Oper} {o : Oper} {a : Act} {w : World} {Q : Exit → Act → World → Prop} (hgd : o.guard = none) (s x : Operand)
 (ho : o.op = .call { callee := .builtin .append, args := #[s, x], argTypes := #[46, 46] })
 (B : Nat) (v : Value) (l : List Int) (hs : a.eval s = v) (hown : OutI B w v l) (n : Int) (q c : Nat) (hx : a.eval x = .slice (some ⟨q, 0, none⟩) 1 c) (T : TypeId) (fr : Nat × Nat)
 (hq : w.heap[q]? = some (.cells #[.int .i64 n] T fr)) (hlen : l.length ≤ 16777216) (hB : B ≤ w.heap.size)
 (H : ∀ v' w', OutI B w' v' (l ++ [n]) → Below B w w' → wpList Tryz.prog ops Q rest (a.put o.dst v') w') : wpList Tryz.prog ops Q (o :: rest) a w := by
 obtain ⟨i0, hi, hz0, hz1, hz2⟩ := info_parts infoInt
 refine wpList_append_lies w hgd s x 46 ho B 3 i0 _ 1 8 Tryz.underlying46 hi hz0 hz1 hz2 (by rfl) (by decide) v l.length _ hs hown ⟨q, 0, none⟩ 1 c [.int .i64 n] hx (by rfl) (cells_add hq) ?_ (by decide) (by unfold maxLen; omega) (by omega) hB w.heap.size rfl ?_
 · intro u hu
   obtain rfl := List.mem_singleton.1 hu
   rfl
 · intro g cap w' hown' hgrow hat hlt
   refine H _ w' ?_ ((Below.refl B w).grown hgrow hB (fun k hk => (World.ownsRow.lt hown k hk).1))
   unfold OutI
   rw [List.length_append, List.map_append]
   exact hown'
def TrcR (l : List Pc) (w : World) (e : Ending) (w' : World) : Prop := ∃ v, e = .returned v ∧ Ints (w.heap.size ≤ ·) w' v (l.map trcF) ∧ Below w.heap.size w w'
theorem slice_of_own {B sz n : Nat} {e : TypeId} {w : World} {v : Value} {xs : List Value} (h : w.ownsRow B e sz v n xs) : ∃ a m c, v = .slice a m c := by
 obtain ⟨a, c, rfl, -⟩ := own_elems h
 exact ⟨a, n, c, rfl⟩
set_option maxRecDepth 100000 in
set_option maxHeartbeats 8000000 in
theorem trace_calls (l : List Pc) (hp : ∀ p ∈ l, Pc.ok p) (hl : l.length ≤ 1000000) (ok : Nat → Prop) (v : Value) (w : World) (h : Pcs ok w v l) :
 Calls Tryz.prog 18 #[v] w (TrcR l w) := by
 obtain ⟨a, c, rfl, -, -, h3⟩ := Pcs.rest h
 have HX := Lib.hid h3
 have HP := Lib.hid hp
 clear h3 h hp
 go_enter Tryz.func18, Tryz.ntmps18
 go_wp2_with fail
 go_loopw [3, 9] (fun v3 v9 wr => ∃ (k : Nat) (ao : Option Addr) (no co : Nat) (d r : List Pc), v3 = .slice ao no co ∧ v9 = .int .i64 (k : Nat) ∧ k + r.length = l.length ∧ d.length = k ∧ Hid (d ++ r = l) ∧ Hid (OutI w.heap.size wr v3 (d.map trcF)) ∧ Hid (Below w.heap.size w wr) ∧ Hid (RestPc ok a w r k)) (fun _ i _ => l.length - (intOf i).toNat)
 case atStart => exact ⟨0, none, 0, 0, [], l, rfl, rfl, by omega, rfl, rfl, OutI.nil _ _, Below.refl _ _, HX⟩
 case round =>
  obtain ⟨k, ao, no, co, d, r, rfl, rfl, hk, hdl, HD, HO, HB, HRX⟩ := hrel
  cases r with
  | nil =>
    simp only [List.length_nil] at hk
    have hge : ¬ (k : Int) < (l.length : Int) := by omega
    go_wp2_with fail
    go_ret
    have he := HD.out
    rw [List.append_nil] at he
    exact ⟨_, rfl, by rw [← he]; exact HO.out.ints, HB.out⟩
  | cons p r =>
    simp only [List.length_cons] at hk
    have hlt' : (k : Int) < (l.length : Int) := by omega
    have hk0 : (0 : Int) ≤ (k : Int) := by omega
    have hpk := HP.out p (by rw [← HD.out]; simp)
    obtain ⟨-, hp1, hp2⟩ := hpk
    obtain ⟨b, o, rfl, hb, hrow⟩ := HRX.out (by simp)
    have HRS : Hid (RestPc ok (some ⟨b, o, none⟩) w r (k + 1)) := fun _ => ⟨b, o, rfl, hb, by have := hrow.2.2; rwa [show o + k * 10 + 10 = o + (k + 1) * 10 by omega] at this⟩
    obtain ⟨⟨g0, g1, g2⟩, ⟨⟨c0, c1, c2, c3, c4, v5, c5, an, cn, rfl, -⟩, ⟨ag, cg, c6, -⟩, -⟩, -⟩ := RowP.kept (fun b hb => HB.out.block b hb.2) _ _ _ hb hrow
    have HKI := Lib.hid hk
    have HD2 : Hid ((d ++ [p]) ++ r = l) := by unfold Hid; rw [List.append_assoc]; exact HD.out
    have hsw := HB.out.size
    have hdl2 : (d.map trcF).length ≤ 16777216 := by rw [List.length_map]; omega
    clear hrow hk
    cases hh : p.hole with
    | false =>
      rw [hh] at g1
      have HE : Hid (trcF p = p.pos) := by unfold Hid trcF; rw [hh]; rfl
      have HA : Hid (Below wr.heap.size wr (wr.alloc (.cells #[.int .i64 p.pos, .bool false, .string p.text, .int .u8 (p.val.h.kind : Nat), .bool p.val.h.b, .int .i64 p.val.h.n, .int .u64 (p.val.h.bits : Nat), .string p.val.h.text, .slice an p.val.h.keys.length cn, .slice ag p.val.items.len cg] 44))) := (Below.refl _ wr).alloc (Nat.le_refl _) _
      clear hh
      go_upto_region 5 with (fail)
      clear g0 g1 g2 c0 c1 c2 c3 c4 c5 c6
      have x0 : (wr.alloc (.cells #[.int .i64 p.pos, .bool false, .string p.text, .int .u8 (p.val.h.kind : Nat), .bool p.val.h.b, .int .i64 p.val.h.n, .int .u64 (p.val.h.bits : Nat), .string p.val.h.text, .slice an p.val.h.keys.length cn, .slice ag p.val.items.len cg] 44)).cell? ⟨wr.heap.size, 0, none⟩ = some (.int .i64 p.pos) := by rw [cell_of_heap' (heap_alloc_new wr _)]; rfl
      have x1 : (wr.alloc (.cells #[.int .i64 p.pos, .bool false, .string p.text, .int .u8 (p.val.h.kind : Nat), .bool p.val.h.b, .int .i64 p.val.h.n, .int .u64 (p.val.h.bits : Nat), .string p.val.h.text, .slice an p.val.h.keys.length cn, .slice ag p.val.items.len cg] 44)).cell? ⟨wr.heap.size, 1, none⟩ = some (.bool false) := by rw [cell_of_heap' (heap_alloc_new wr _)]; rfl
      generalize World.alloc wr _ = W3 at *
      have hsz := HA.out.size
      have HO3 : Hid (OutI w.heap.size W3 (.slice ao no co) (d.map trcF)) := HO.out.below HA.out
      have HB3 : Hid (Below w.heap.size w W3) := HB.out.trans (HA.out.mono hsw)
      have HA3 : Hid (Below W3.heap.size W3 (W3.alloc (.cells #[.int .i64 p.pos] 3))) := (Below.refl _ W3).alloc (Nat.le_refl _) _
      go_wp2_with (at_builtin; refine app_int rfl _ _ rfl w.heap.size (.slice ao no co) (d.map trcF) rfl (HO3.out.below HA3.out) p.pos W3.heap.size 1 rfl 3 (0, 0) (heap_alloc_new W3 _) hdl2 (by simp; omega) ?_; intro v6 w4 hO4 hb4; obtain ⟨a6, n6, c6, rfl⟩ := slice_of_own hO4; have HO4 := Lib.hid hO4; have HB4 : Hid (Below w.heap.size w w4) := (HB3.out.trans (HA3.out.mono (by omega))).trans hb4; clear hO4 hb4)
      exact ⟨⟨k + 1, _, _, _, d ++ [p], r, rfl, by go_num, by have := HKI.out; omega, by simp; omega, HD2, by unfold Hid; rw [List.map_append, List.map_cons, List.map_nil, HE.out]; exact HO4.out, HB4, HRS⟩, by simp [intOf]; have := HKI.out; omega⟩
    | true =>
      rw [hh] at g1
      have HE : Hid (trcF p = -1 - p.pos) := by unfold Hid trcF; rw [hh]; rfl
      have HA : Hid (Below wr.heap.size wr (wr.alloc (.cells #[.int .i64 p.pos, .bool true, .string p.text, .int .u8 (p.val.h.kind : Nat), .bool p.val.h.b, .int .i64 p.val.h.n, .int .u64 (p.val.h.bits : Nat), .string p.val.h.text, .slice an p.val.h.keys.length cn, .slice ag p.val.items.len cg] 44))) := (Below.refl _ wr).alloc (Nat.le_refl _) _
      clear hh
      go_upto_region 5 with (fail)
      clear g0 g1 g2 c0 c1 c2 c3 c4 c5 c6
      have x0 : (wr.alloc (.cells #[.int .i64 p.pos, .bool true, .string p.text, .int .u8 (p.val.h.kind : Nat), .bool p.val.h.b, .int .i64 p.val.h.n, .int .u64 (p.val.h.bits : Nat), .string p.val.h.text, .slice an p.val.h.keys.length cn, .slice ag p.val.items.len cg] 44)).cell? ⟨wr.heap.size, 0, none⟩ = some (.int .i64 p.pos) := by rw [cell_of_heap' (heap_alloc_new wr _)]; rfl
      have x1 : (wr.alloc (.cells #[.int .i64 p.pos, .bool true, .string p.text, .int .u8 (p.val.h.kind : Nat), .bool p.val.h.b, .int .i64 p.val.h.n, .int .u64 (p.val.h.bits : Nat), .string p.val.h.text, .slice an p.val.h.keys.length cn, .slice ag p.val.items.len cg] 44)).cell? ⟨wr.heap.size, 1, none⟩ = some (.bool true) := by rw [cell_of_heap' (heap_alloc_new wr _)]; rfl
      generalize World.alloc wr _ = W3 at *
      have hsz := HA.out.size
      have HO3 : Hid (OutI w.heap.size W3 (.slice ao no co) (d.map trcF)) := HO.out.below HA.out
      have HB3 : Hid (Below w.heap.size w W3) := HB.out.trans (HA.out.mono hsw)
      have HA3 : Hid (Below W3.heap.size W3 (W3.alloc (.cells #[.int .i64 (-1 - p.pos)] 3))) := (Below.refl _ W3).alloc (Nat.le_refl _) _
      go_wp2_with (at_builtin; refine app_int rfl _ _ rfl w.heap.size (.slice ao no co) (d.map trcF) rfl (HO3.out.below HA3.out) (-1 - p.pos) W3.heap.size 1 rfl 3 (0, 0) (heap_alloc_new W3 _) hdl2 (by simp; omega) ?_; intro v6 w4 hO4 hb4; obtain ⟨a6, n6, c6, rfl⟩ := slice_of_own hO4; have HO4 := Lib.hid hO4; have HB4 : Hid (Below w.heap.size w w4) := (HB3.out.trans (HA3.out.mono (by omega))).trans hb4; clear hO4 hb4)
      exact ⟨⟨k + 1, _, _, _, d ++ [p], r, rfl, by go_num, by have := HKI.out; omega, by simp; omega, HD2, by unfold Hid; rw [List.map_append, List.map_cons, List.map_nil, HE.out]; exact HO4.out, HB4, HRS⟩, by simp [intOf]; have := HKI.out; omega⟩
theorem oth_wg : ∀ t : Vl, wgX (othL oT t) ≤ wgX t + 7 * cntX t := by
 intro t
 induction t with
 | nil => exact Nat.le_refl _
 | cons h k r ihk ihr =>
   have ht : (othH oT h).text.size ≤ h.text.size + 7 := by
    unfold othH
    split
    · show (h.text ++ oT).size ≤ _
      rw [ByteArray.size_append]; exact Nat.le_refl _
    · omega
   simp only [othL, wgX, cntX, oth_keys]
   omega
theorem oth_wf : ∀ t : Vl, wfX t → wgX t ≤ 2048 → wfX (othL oT t) := by
 intro t
 induction t with
 | nil => intro _ _; exact trivial
 | cons h k r ihk ihr =>
   rintro ⟨⟨s1, s2, s3, s4, s5, s6, s7⟩, h2, h3, h4⟩ hw
   simp only [wgX] at hw
   have ht : (othH oT h).text.size ≤ h.text.size + 7 := by
    unfold othH
    split
    · show (h.text ++ oT).size ≤ _
      rw [ByteArray.size_append]; exact Nat.le_refl _
    · omega
   refine ⟨⟨by rw [oth_kind]; exact s1, by rw [oth_n]; exact s2, by rw [oth_n]; exact s3, by rw [oth_bits]; exact s4, by omega, by rw [oth_keys]; exact s6, by rw [oth_keys]; exact s7⟩, ihk h2 (by omega), ihr h3 (by omega), by rw [oth_len]; exact h4⟩
theorem oth_sm {x : Va} (h : Va.wf x) (hw : wvF 2048 x ≤ 2048) : Va.sm (othV oT x) := by
 have h1 := wvF_eq x 2048 hw
 have h2 : wgX (.cons x.h x.items .nil) ≤ 2048 := by rw [← h1]; exact hw
 have h4 := cnt_le_wgX (.cons x.h x.items .nil)
 have h5 := oth_wg (.cons x.h x.items .nil)
 have h3 := sm_of_weight 16384 (by decide) _ (oth_wf (.cons x.h x.items .nil) ⟨h.1, h.2.1, trivial, h.2.2⟩ h2) (by omega)
 have h6 := cnt_le_wgX (othL oT (.cons x.h x.items .nil))
 simp only [othL, cntX] at h6 h3
 exact ⟨h3.1, h3.2.1, by show cntX (othL oT x.items) ≤ _; simp only [othL] at h5; omega⟩
set_option maxRecDepth 100000 in
set_option maxHeartbeats 40000000 in
theorem evalTraces_walk (t : Tm) (ht : TmW t) (v : Va) (hv : Va.wf v) (am ad a1 a2 : Option Addr) (cm cd c1 c2 : Nat) (w : World) (hg : Gd w) (hp : Parts (· < w.heap.size) w (.slice am t.main.len cm) t.main) (hd : Defs (· < w.heap.size) w (.slice ad t.defs.length cd) t.defs) (hx : ValS (· < w.heap.size) w v a1 c1 a2 c2) (fuel calls : Int) :
 Calls Tryz.prog 4 #[.agg #[.slice am t.main.len cm, .slice ad t.defs.length cd], .agg #[.int .u8 (v.h.kind : Nat), .bool v.h.b, .int .i64 v.h.n, .int .u64 (v.h.bits : Nat), .string v.h.text, .slice a1 v.h.keys.length c1, .slice a2 v.items.len c2], .int .i64 fuel, .int .i64 calls] w fun e w' => e = .returned (.bool true) ∧ Below w.heap.size w w' := by
 have WC : Hid (∀ W, Below w.heap.size w W → Calls Tryz.prog 8 #[] W fun e w' => e = .returned (.bool true) ∧ Below W.heap.size W w') := fun W hW => works_calls W (hg.belowB hg.glB hW)
 have FC : Hid (∀ W, Below w.heap.size w W → Calls Tryz.prog 9 #[.agg #[.slice am t.main.len cm, .slice ad t.defs.length cd], .agg #[.int .u8 (v.h.kind : Nat), .bool v.h.b, .int .i64 v.h.n, .int .u64 (v.h.bits : Nat), .string v.h.text, .slice a1 v.h.keys.length c1, .slice a2 v.items.len c2]] W (FarR t v W)) := fun W hW => far_calls t ht v hv am ad a1 a2 cm cd c1 c2 W ((hp.kept (Kept.of_below hW)).mono (fun b hb => Nat.lt_of_lt_of_le hb hW.size)) ((hd.kept (Kept.of_below hW)).mono (fun b hb => Nat.lt_of_lt_of_le hb hW.size)) ((hx.kept (Kept.of_below hW)).mono (fun b hb => Nat.lt_of_lt_of_le hb hW.size))
 have RC : Hid (∀ (hz : TmZ t) (hs : Va.sm v) W (fuel calls : Int), Below w.heap.size w W → Calls Tryz.prog 12 #[.agg #[.slice am t.main.len cm, .slice ad t.defs.length cd], .agg #[.int .u8 (v.h.kind : Nat), .bool v.h.b, .int .i64 v.h.n, .int .u64 (v.h.bits : Nat), .string v.h.text, .slice a1 v.h.keys.length c1, .slice a2 v.items.len c2], .int .i64 fuel, .int .i64 calls] W (RunR (Ev.runT t v fuel calls) W)) := fun hz hs W fuel calls hW => run_calls t hz v hs fuel calls am ad a1 a2 cm cd c1 c2 W (hg.belowB hg.glB hW) ((hp.kept (Kept.of_below hW)).mono (fun b hb => Nat.lt_of_lt_of_le hb hW.size)) ((hd.kept (Kept.of_below hW)).mono (fun b hb => Nat.lt_of_lt_of_le hb hW.size)) ((hx.kept (Kept.of_below hW)).mono (fun b hb => Nat.lt_of_lt_of_le hb hW.size))
 have HTW := Lib.hid ht
 have HVW := Lib.hid hv
 have OC : Hid (∀ (hs : Va.sm v) W, Below w.heap.size w W → Calls Tryz.prog 21 #[.agg #[.int .u8 (v.h.kind : Nat), .bool v.h.b, .int .i64 v.h.n, .int .u64 (v.h.bits : Nat), .string v.h.text, .slice a1 v.h.keys.length c1, .slice a2 v.items.len c2]] W (BltR (othV oT v) (· < w.heap.size) false W)) := fun hs W hW => othv_calls v _ _ W hs (hx.kept (Kept.of_below hW)).val
 have RY : Hid (∀ (hz : TmZ t) y (hs : Va.sm y) W (fuel calls : Int) n1 m1 n2 m2, Below w.heap.size w W → ValS (· < W.heap.size) W y n1 m1 n2 m2 → Calls Tryz.prog 12 #[.agg #[.slice am t.main.len cm, .slice ad t.defs.length cd], .agg #[.int .u8 (y.h.kind : Nat), .bool y.h.b, .int .i64 y.h.n, .int .u64 (y.h.bits : Nat), .string y.h.text, .slice n1 y.h.keys.length m1, .slice n2 y.items.len m2], .int .i64 fuel, .int .i64 calls] W (RunR (Ev.runT t y fuel calls) W)) := fun hz y hs W fuel calls n1 m1 n2 m2 hW hvy => run_calls t hz y hs fuel calls am ad n1 n2 cm cd m1 m2 W (hg.belowB hg.glB hW) ((hp.kept (Kept.of_below hW)).mono (fun b hb => Nat.lt_of_lt_of_le hb hW.size)) ((hd.kept (Kept.of_below hW)).mono (fun b hb => Nat.lt_of_lt_of_le hb hW.size)) hvy
 clear hp hd hx ht hv hg
 have HT : Hid (∀ W0, ((w.alloc (.cells #[.slice am t.main.len cm, .slice ad t.defs.length cd] 25)).alloc (.cells #[.int .u8 (v.h.kind : Nat), .bool v.h.b, .int .i64 v.h.n, .int .u64 (v.h.bits : Nat), .string v.h.text, .slice a1 v.h.keys.length c1, .slice a2 v.items.len c2] 31)) = W0 → Below w.heap.size w W0 ∧ W0.heap.size = w.heap.size + 2 ∧ W0.heap[w.heap.size]? = some (.cells #[.slice am t.main.len cm, .slice ad t.defs.length cd] 25 (0, 0)) ∧ W0.heap[w.heap.size + 1]? = some (.cells #[.int .u8 (v.h.kind : Nat), .bool v.h.b, .int .i64 v.h.n, .int .u64 (v.h.bits : Nat), .string v.h.text, .slice a1 v.h.keys.length c1, .slice a2 v.items.len c2] 31 (0, 0))) := by
  rintro W0 rfl
  have n0 := heap_alloc_new w (.cells #[.slice am t.main.len cm, .slice ad t.defs.length cd] 25)
  have n1 := heap_alloc_new (w.alloc (.cells #[.slice am t.main.len cm, .slice ad t.defs.length cd] 25)) (.cells #[.int .u8 (v.h.kind : Nat), .bool v.h.b, .int .i64 v.h.n, .int .u64 (v.h.bits : Nat), .string v.h.text, .slice a1 v.h.keys.length c1, .slice a2 v.items.len c2] 31)
  simp only [World.size_alloc] at n1
  exact ⟨((Below.refl _ w).alloc (Nat.le_refl _) _).alloc (by simp) _, by simp, (Below.heap_alloc _ _ _ (by simp)).trans n0, n1⟩
 go_enter Tryz.func4, Tryz.ntmps4
 go_upto_region 1 with (fail)
 try simp only [Nat.add_assoc, Nat.reduceAdd]
 generalize hWW : World.alloc (World.alloc w _) _ = w0 at *
 obtain ⟨hb0, hz0, ht0, hv0⟩ := HT.out w0 rfl
 clear hWW HT
 have HB0 := Lib.hid hb0
 have HT0 := Lib.hid ht0
 have HV0 := Lib.hid hv0
 clear hb0 ht0 hv0
 go_wp2_with fail
 refine (WC.out w0 HB0.out).mono ?_
 rintro e w1 ⟨rfl, hb1⟩
 have HB1 : Hid (Below w.heap.size w w1) := HB0.out.trans (hb1.mono (by omega))
 have hz1 : w.heap.size + 2 ≤ w1.heap.size := by have := hb1.size; omega
 have HT1 := Lib.hid ((hb1.block _ (by omega)).trans HT0.out)
 have HV1 := Lib.hid ((hb1.block _ (by omega)).trans HV0.out)
 clear hb1 hz0
 have t0 : w1.cell? ⟨w.heap.size, 0, none⟩ = some (.slice am t.main.len cm) := by rw [cell_of_heap' HT1.out]; rfl
 have t1 : w1.cell? ⟨w.heap.size, 1, none⟩ = some (.slice ad t.defs.length cd) := by rw [cell_of_heap' HT1.out]; rfl
 have v0 : w1.cell? ⟨w.heap.size + 1, 0, none⟩ = some (.int .u8 (v.h.kind : Nat)) := by rw [cell_of_heap' HV1.out]; rfl
 have v1 : w1.cell? ⟨w.heap.size + 1, 1, none⟩ = some (.bool v.h.b) := by rw [cell_of_heap' HV1.out]; rfl
 have v2 : w1.cell? ⟨w.heap.size + 1, 2, none⟩ = some (.int .i64 v.h.n) := by rw [cell_of_heap' HV1.out]; rfl
 have v3 : w1.cell? ⟨w.heap.size + 1, 3, none⟩ = some (.int .u64 (v.h.bits : Nat)) := by rw [cell_of_heap' HV1.out]; rfl
 have v4 : w1.cell? ⟨w.heap.size + 1, 4, none⟩ = some (.string v.h.text) := by rw [cell_of_heap' HV1.out]; rfl
 have v5 : w1.cell? ⟨w.heap.size + 1, 5, none⟩ = some (.slice a1 v.h.keys.length c1) := by rw [cell_of_heap' HV1.out]; rfl
 have v6 : w1.cell? ⟨w.heap.size + 1, 6, none⟩ = some (.slice a2 v.items.len c2) := by rw [cell_of_heap' HV1.out]; rfl
 go_wp2_with fail
 refine (FC.out w1 HB1.out).mono ?_
 rintro e w2 ⟨fb, rfl, hfb, hb2⟩
 have HFB := Lib.hid hfb
 clear hfb
 have HB2 : Hid (Below w.heap.size w w2) := HB1.out.trans (hb2.mono (by omega))
 have hz2 : w.heap.size + 2 ≤ w2.heap.size := by have := hb2.size; omega
 have HT2 := Lib.hid ((hb2.block _ (by omega)).trans HT1.out)
 have HV2 := Lib.hid ((hb2.block _ (by omega)).trans HV1.out)
 clear hb2 hz1 t0 t1 v0 v1 v2 v3 v4 v5 v6
 cases fb with
 | true =>
   go_wp2_with fail
   go_ret
   exact ⟨rfl, HB2.out⟩
 | false =>
 have hsz := HFB.out rfl
 have HSV := Lib.hid (Va.wf_sm HVW.out hsz.2)
 have HTZ := Lib.hid (tmZ_of t HTW.out (by omega))
 have HSY0 := Lib.hid (oth_sm HVW.out hsz.2)
 clear hsz HFB
 by_cases hgc : (5000 : Int) < fuel
 · have hgd : decide ((5000 : Int) < fuel) = true := decide_eq_true hgc
   go_wp2_with fail
   go_ret
   exact ⟨rfl, HB2.out⟩
 have hgd0 : decide ((5000 : Int) < fuel) = false := decide_eq_false hgc
 replace hgc := Lib.hid hgc
 have HGC0 := hgc
 clear hgc
 clear HGC0
 have HTR := Lib.hid (run_traces_t t v oT fuel calls)
 have HOA := Lib.hid (run_out HTW.out HSV.out fuel calls)
 have HOB := Lib.hid (run_out HTW.out HSY0.out fuel calls)
 have O1 := OC.out HSV.out w2 HB2.out
 obtain ⟨y, hy⟩ : ∃ y, othV oT v = y := ⟨_, rfl⟩
 rw [hy] at HTR HOB HSY0 O1
 have HO1 := Lib.hid O1
 clear O1 hy
 obtain ⟨⟨la, ea, pa⟩, hra⟩ : ∃ r, Ev.runT t v fuel calls = r := ⟨_, rfl⟩
 obtain ⟨⟨lb, eb, pb⟩, hrb⟩ : ∃ r, Ev.runT t y fuel calls = r := ⟨_, rfl⟩
 have t0 : w2.cell? ⟨w.heap.size, 0, none⟩ = some (.slice am t.main.len cm) := by rw [cell_of_heap' HT2.out]; rfl
 have t1 : w2.cell? ⟨w.heap.size, 1, none⟩ = some (.slice ad t.defs.length cd) := by rw [cell_of_heap' HT2.out]; rfl
 have v0 : w2.cell? ⟨w.heap.size + 1, 0, none⟩ = some (.int .u8 (v.h.kind : Nat)) := by rw [cell_of_heap' HV2.out]; rfl
 have v1 : w2.cell? ⟨w.heap.size + 1, 1, none⟩ = some (.bool v.h.b) := by rw [cell_of_heap' HV2.out]; rfl
 have v2 : w2.cell? ⟨w.heap.size + 1, 2, none⟩ = some (.int .i64 v.h.n) := by rw [cell_of_heap' HV2.out]; rfl
 have v3 : w2.cell? ⟨w.heap.size + 1, 3, none⟩ = some (.int .u64 (v.h.bits : Nat)) := by rw [cell_of_heap' HV2.out]; rfl
 have v4 : w2.cell? ⟨w.heap.size + 1, 4, none⟩ = some (.string v.h.text) := by rw [cell_of_heap' HV2.out]; rfl
 have v5 : w2.cell? ⟨w.heap.size + 1, 5, none⟩ = some (.slice a1 v.h.keys.length c1) := by rw [cell_of_heap' HV2.out]; rfl
 have v6 : w2.cell? ⟨w.heap.size + 1, 6, none⟩ = some (.slice a2 v.items.len c2) := by rw [cell_of_heap' HV2.out]; rfl
 go_upto_region 7 with (fail)
 clear hgd0
 go_wp2_with fail
 refine HO1.out.mono ?_
 rintro e w3 ⟨n1, m1, n2, m2, rfl, hvy, hb3⟩
 have HVY := Lib.hid hvy
 clear hvy HO1 OC
 have HB3 : Hid (Below w.heap.size w w3) := HB2.out.trans (hb3.mono (by omega))
 have hz3 : w.heap.size + 2 ≤ w3.heap.size := by have := hb3.size; omega
 have HT3 := Lib.hid ((hb3.block _ (by omega)).trans HT2.out)
 have HV3 := Lib.hid ((hb3.block _ (by omega)).trans HV2.out)
 clear hb3 hz2 t0 t1 v0 v1 v2 v3 v4 v5 v6
 have HA3 : Hid (Below w3.heap.size w3 (w3.alloc (.cells #[.int .u8 (y.h.kind : Nat), .bool y.h.b, .int .i64 y.h.n, .int .u64 (y.h.bits : Nat), .string y.h.text, .slice n1 y.h.keys.length m1, .slice n2 y.items.len m2] 31))) := (Below.refl _ w3).alloc (Nat.le_refl _) _
 have HY4 : Hid ((w3.alloc (.cells #[.int .u8 (y.h.kind : Nat), .bool y.h.b, .int .i64 y.h.n, .int .u64 (y.h.bits : Nat), .string y.h.text, .slice n1 y.h.keys.length m1, .slice n2 y.items.len m2] 31)).heap[w3.heap.size]? = some (.cells #[.int .u8 (y.h.kind : Nat), .bool y.h.b, .int .i64 y.h.n, .int .u64 (y.h.bits : Nat), .string y.h.text, .slice n1 y.h.keys.length m1, .slice n2 y.items.len m2] 31 (0, 0))) := heap_alloc_new w3 _
 have HS4 : Hid ((w3.alloc (.cells #[.int .u8 (y.h.kind : Nat), .bool y.h.b, .int .i64 y.h.n, .int .u64 (y.h.bits : Nat), .string y.h.text, .slice n1 y.h.keys.length m1, .slice n2 y.items.len m2] 31)).heap.size = w3.heap.size + 1) := by unfold Hid; simp
 go_upto_region 8 with (fail)
 generalize hWW : World.alloc w3 _ = w4 at *
 clear hWW
 have HB4 : Hid (Below w.heap.size w w4) := HB3.out.trans (HA3.out.mono (by omega))
 have hz4 : w3.heap.size < w4.heap.size := by have := HS4.out; omega
 have hw3 : w.heap.size + 2 ≤ w3.heap.size := hz3
 have HT4 := Lib.hid ((HA3.out.block _ (by omega)).trans HT3.out)
 have HV4 := Lib.hid ((HA3.out.block _ (by omega)).trans HV3.out)
 have HVY4 : Hid (ValS (· < w4.heap.size) w4 y n1 m1 n2 m2) := (HVY.out.kept (fun b hb => HA3.out.block b hb.2.1)).mono fun b hb => Nat.lt_trans hb.2.1 hz4
 clear HA3 HS4 HVY hz3
 have t0 : w4.cell? ⟨w.heap.size, 0, none⟩ = some (.slice am t.main.len cm) := by rw [cell_of_heap' HT4.out]; rfl
 have t1 : w4.cell? ⟨w.heap.size, 1, none⟩ = some (.slice ad t.defs.length cd) := by rw [cell_of_heap' HT4.out]; rfl
 have v0 : w4.cell? ⟨w.heap.size + 1, 0, none⟩ = some (.int .u8 (v.h.kind : Nat)) := by rw [cell_of_heap' HV4.out]; rfl
 have v1 : w4.cell? ⟨w.heap.size + 1, 1, none⟩ = some (.bool v.h.b) := by rw [cell_of_heap' HV4.out]; rfl
 have v2 : w4.cell? ⟨w.heap.size + 1, 2, none⟩ = some (.int .i64 v.h.n) := by rw [cell_of_heap' HV4.out]; rfl
 have v3 : w4.cell? ⟨w.heap.size + 1, 3, none⟩ = some (.int .u64 (v.h.bits : Nat)) := by rw [cell_of_heap' HV4.out]; rfl
 have v4 : w4.cell? ⟨w.heap.size + 1, 4, none⟩ = some (.string v.h.text) := by rw [cell_of_heap' HV4.out]; rfl
 have v5 : w4.cell? ⟨w.heap.size + 1, 5, none⟩ = some (.slice a1 v.h.keys.length c1) := by rw [cell_of_heap' HV4.out]; rfl
 have v6 : w4.cell? ⟨w.heap.size + 1, 6, none⟩ = some (.slice a2 v.items.len c2) := by rw [cell_of_heap' HV4.out]; rfl
 have R1 := Lib.hid (RC.out HTZ.out HSV.out w4 fuel calls HB4.out)
 go_wp2_with fail
 refine R1.out.mono ?_
 rw [hra]
 rintro e w5 ⟨hb5, aa, ca, rfl, hpa⟩
 have HPA := Lib.hid (hpa_kept hpa (Below.refl _ _))
 have HVY5 : Hid (ValS (· < w5.heap.size) w5 y n1 m1 n2 m2) := (HVY4.out.kept (fun b hb => hb5.block b hb)).mono fun b hb => Nat.lt_of_lt_of_le hb hb5.size
 clear hpa R1 HVY4
 have HB5 : Hid (Below w.heap.size w w5) := HB4.out.trans (hb5.mono (by omega))
 have hz5 : w3.heap.size < w5.heap.size := by have := hb5.size; omega
 have HT5 := Lib.hid ((hb5.block _ (by omega)).trans HT4.out)
 have HV5 := Lib.hid ((hb5.block _ (by omega)).trans HV4.out)
 have HY5 := Lib.hid ((hb5.block _ (by omega)).trans HY4.out)
 clear hb5 hz4 t0 t1 v0 v1 v2 v3 v4 v5 v6
 have t0 : w5.cell? ⟨w.heap.size, 0, none⟩ = some (.slice am t.main.len cm) := by rw [cell_of_heap' HT5.out]; rfl
 have t1 : w5.cell? ⟨w.heap.size, 1, none⟩ = some (.slice ad t.defs.length cd) := by rw [cell_of_heap' HT5.out]; rfl
 have v0 : w5.cell? ⟨w.heap.size + 1, 0, none⟩ = some (.int .u8 (v.h.kind : Nat)) := by rw [cell_of_heap' HV5.out]; rfl
 have v1 : w5.cell? ⟨w.heap.size + 1, 1, none⟩ = some (.bool v.h.b) := by rw [cell_of_heap' HV5.out]; rfl
 have v2 : w5.cell? ⟨w.heap.size + 1, 2, none⟩ = some (.int .i64 v.h.n) := by rw [cell_of_heap' HV5.out]; rfl
 have v3 : w5.cell? ⟨w.heap.size + 1, 3, none⟩ = some (.int .u64 (v.h.bits : Nat)) := by rw [cell_of_heap' HV5.out]; rfl
 have v4 : w5.cell? ⟨w.heap.size + 1, 4, none⟩ = some (.string v.h.text) := by rw [cell_of_heap' HV5.out]; rfl
 have v5 : w5.cell? ⟨w.heap.size + 1, 5, none⟩ = some (.slice a1 v.h.keys.length c1) := by rw [cell_of_heap' HV5.out]; rfl
 have v6 : w5.cell? ⟨w.heap.size + 1, 6, none⟩ = some (.slice a2 v.items.len c2) := by rw [cell_of_heap' HV5.out]; rfl
 have y0 : w5.cell? ⟨w3.heap.size, 0, none⟩ = some (.int .u8 (y.h.kind : Nat)) := by rw [cell_of_heap' HY5.out]; rfl
 have y1 : w5.cell? ⟨w3.heap.size, 1, none⟩ = some (.bool y.h.b) := by rw [cell_of_heap' HY5.out]; rfl
 have y2 : w5.cell? ⟨w3.heap.size, 2, none⟩ = some (.int .i64 y.h.n) := by rw [cell_of_heap' HY5.out]; rfl
 have y3 : w5.cell? ⟨w3.heap.size, 3, none⟩ = some (.int .u64 (y.h.bits : Nat)) := by rw [cell_of_heap' HY5.out]; rfl
 have y4 : w5.cell? ⟨w3.heap.size, 4, none⟩ = some (.string y.h.text) := by rw [cell_of_heap' HY5.out]; rfl
 have y5 : w5.cell? ⟨w3.heap.size, 5, none⟩ = some (.slice n1 y.h.keys.length m1) := by rw [cell_of_heap' HY5.out]; rfl
 have y6 : w5.cell? ⟨w3.heap.size, 6, none⟩ = some (.slice n2 y.items.len m2) := by rw [cell_of_heap' HY5.out]; rfl
 have R2 := Lib.hid (RY.out HTZ.out y HSY0.out w5 fuel calls n1 m1 n2 m2 HB5.out HVY5.out)
 go_wp2_with fail
 refine R2.out.mono ?_
 rw [hrb]
 rintro e w6 ⟨hb6, ab, cb, rfl, hpb⟩
 have HPB := Lib.hid (hpa_kept hpb (Below.refl _ _))
 have HPA6 := Lib.hid ((HPA.out.kept (fun b hb => hb6.block b hb)).mono fun b hb => Nat.lt_of_lt_of_le hb hb6.size)
 have HB6 : Hid (Below w.heap.size w w6) := HB5.out.trans (hb6.mono (by omega))
 have hz6 : w.heap.size ≤ w6.heap.size := by have := hb6.size; omega
 clear hpb R2 HPA HVY5 hb6 hz5 HT5 HV5 HY5 y0 y1 y2 y3 y4 y5 y6 t0 t1 v0 v1 v2 v3 v4 v5 v6
 rw [hra, hrb] at HTR
 rw [hra] at HOA
 rw [hrb] at HOB
 dsimp only at HTR HOA HOB HPA6 HPB
 obtain ⟨htr1, htr2⟩ := HTR.out
 cases htr2
 have HTQ := Lib.hid htr1
 clear htr1 HTR hra hrb
 dsimp only
 go_wp2_with fail
 refine (trace_calls la HOA.out.1 HOA.out.2 _ _ w6 HPA6.out).mono ?_
 rintro e w7 ⟨va, rfl, hia, hb7⟩
 obtain ⟨tr, htr⟩ : ∃ tr, la.map trcF = tr := ⟨_, rfl⟩
 have HTS := HTQ.out
 have htl : tr.length ≤ 140737488351232 := by rw [← htr, List.length_map]; have := HOA.out.2; omega
 have HTL := Lib.hid htl
 rw [htr] at hia HTS
 have HTSS := Lib.hid HTS
 clear htr HTS htl
 obtain ⟨a7, c7, rfl, -⟩ := id hia
 have HIA := Lib.hid hia
 have HPB7 := Lib.hid (HPB.out.kept (fun b hb => hb7.block b hb))
 have HB7 : Hid (Below w.heap.size w w7) := HB6.out.trans (hb7.mono hz6)
 have hz7 : w6.heap.size ≤ w7.heap.size := hb7.size
 clear hia hb7 HPA6 HPB
 go_wp2_with fail
 refine (trace_calls lb HOB.out.1 HOB.out.2 _ _ w7 HPB7.out).mono ?_
 rintro e w8 ⟨vb, rfl, hib, hb8⟩
 rw [HTSS.out] at hib
 obtain ⟨a8, c8, rfl, -⟩ := id hib
 have HIB := Lib.hid hib
 have HIA8 := Lib.hid (HIA.out.lt.kept (fun b hb => hb8.block b hb.2) hb8.size)
 have HB8 : Hid (Below w.heap.size w w8) := HB7.out.trans (hb8.mono (by omega))
 have hz8 : w7.heap.size ≤ w8.heap.size := hb8.size
 clear hib hb8 HPB7 HIA
 have hbe : ((ea : Int) == (ea : Int)) = true := beq_self_eq_true _
 have hbp : (pa == pa) = true := beq_self_eq_true _
 go_wp2_with fail
 refine (sameInts_calls _ _ tr HTL.out _ _ w8 HIA8.out HIB.out).mono ?_
 rintro e w9 ⟨rfl, hb9⟩
 have HB9 : Hid (Below w.heap.size w w9) := HB8.out.trans (hb9.mono (by omega))
 clear hb9
 go_wp2_with fail
 go_ret
 exact ⟨rfl, HB9.out⟩
end Go.Proofs.YtepcpgdfbaklfaaGreatDoor
