/- The contract of runner.each, out of that of runner.parts. No condition but the run's form in memory. -/
import Derived.Test.YtepcpgdfbaklfaaGreatDoorMcG0
set_option linter.unusedSimpArgs false
set_option linter.unusedVariables false
namespace Go.Proofs.YtepcpgdfbaklfaaGreatDoor
open Go.RowKit Go.Shelf Ev
attribute [local go_sem ↓] Go.wp_at_zero Go.wp_at_succ
def runCells (dot root : Va) (a1 a2 a3 a4 : Option Addr) (c1 c2 c3 c4 deep rb : Nat) : Array Value := #[.int .u8 (dot.h.kind : Nat), .bool dot.h.b, .int .i64 dot.h.n, .int .u64 (dot.h.bits : Nat), .string dot.h.text, .slice a1 dot.h.keys.length c1, .slice a2 dot.items.len c2, .int .u8 (root.h.kind : Nat), .bool root.h.b, .int .i64 root.h.n, .int .u64 (root.h.bits : Nat), .string root.h.text, .slice a3 root.h.keys.length c3, .slice a4 root.items.len c4, .int .i64 (deep : Nat), .pointer (some ⟨rb, 0, none⟩)]
structure RunCs (P : Nat) (dot root : Va) (a1 a2 a3 a4 : Option Addr) (c1 c2 c3 c4 deep rb : Nat) (w : World) : Prop where
 q0 : w.cell? ⟨P, 0, none⟩ = some (.int .u8 (dot.h.kind : Nat))
 q1 : w.cell? ⟨P, 1, none⟩ = some (.bool dot.h.b)
 q2 : w.cell? ⟨P, 2, none⟩ = some (.int .i64 dot.h.n)
 q3 : w.cell? ⟨P, 3, none⟩ = some (.int .u64 (dot.h.bits : Nat))
 q4 : w.cell? ⟨P, 4, none⟩ = some (.string dot.h.text)
 q5 : w.cell? ⟨P, 5, none⟩ = some (.slice a1 dot.h.keys.length c1)
 q6 : w.cell? ⟨P, 6, none⟩ = some (.slice a2 dot.items.len c2)
 q7 : w.cell? ⟨P, 7, none⟩ = some (.int .u8 (root.h.kind : Nat))
 q8 : w.cell? ⟨P, 8, none⟩ = some (.bool root.h.b)
 q9 : w.cell? ⟨P, 9, none⟩ = some (.int .i64 root.h.n)
 q10 : w.cell? ⟨P, 10, none⟩ = some (.int .u64 (root.h.bits : Nat))
 q11 : w.cell? ⟨P, 11, none⟩ = some (.string root.h.text)
 q12 : w.cell? ⟨P, 12, none⟩ = some (.slice a3 root.h.keys.length c3)
 q13 : w.cell? ⟨P, 13, none⟩ = some (.slice a4 root.items.len c4)
 q14 : w.cell? ⟨P, 14, none⟩ = some (.int .i64 (deep : Nat))
 q15 : w.cell? ⟨P, 15, none⟩ = some (.pointer (some ⟨rb, 0, none⟩))
theorem runCs {P : Nat} {dot root : Va} {a1 a2 a3 a4 : Option Addr} {c1 c2 c3 c4 deep rb : Nat} {w : World} (hp : w.heap[P]? = some (.cells (runCells dot root a1 a2 a3 a4 c1 c2 c3 c4 deep rb) 120 (0, 0))) : RunCs P dot root a1 a2 a3 a4 c1 c2 c3 c4 deep rb w :=
 ⟨by rw [cell_of_heap' hp]; rfl, by rw [cell_of_heap' hp]; rfl, by rw [cell_of_heap' hp]; rfl, by rw [cell_of_heap' hp]; rfl, by rw [cell_of_heap' hp]; rfl, by rw [cell_of_heap' hp]; rfl, by rw [cell_of_heap' hp]; rfl, by rw [cell_of_heap' hp]; rfl, by rw [cell_of_heap' hp]; rfl, by rw [cell_of_heap' hp]; rfl, by rw [cell_of_heap' hp]; rfl, by rw [cell_of_heap' hp]; rfl, by rw [cell_of_heap' hp]; rfl, by rw [cell_of_heap' hp]; rfl, by rw [cell_of_heap' hp]; rfl, by rw [cell_of_heap' hp]; rfl⟩
def eachF (D : ByteArray → Pt) (C n : Nat) (dot root : Va) (deep : Nat) (h : Hd) (kd el : Pt) (f : Nat) : Ev.Rs := match getF h.names (if h.root then root else dot) with
 | .error x => ⟨[], f, some (x, h.pos)⟩
 | .ok v => if v.h.kind = 6 then if v.items.len = 0 then listF (evF D C n dot root deep) el f else itemsF h.pos (fun x => listF (evF D C n x root deep) kd) v.items f else ⟨[], f, some (201, h.pos)⟩
structure StpX (rb X : Nat) (S : Nat → Prop) (W : World) (S' : Nat → Prop) (W' : World) : Prop where
 off : Off (fun b => okS S rb W b ∧ b ≠ X) W W'
 grow : ∀ b, S' b → S b ∨ W.heap.size ≤ b
 lt : ∀ b, S' b → b < W'.heap.size
theorem StpX.ok {rb X : Nat} {S S' : Nat → Prop} {W W' : World} (h : StpX rb X S W S' W') : ∀ b, okS S rb W b → okS S' rb W' b := fun b hb =>
 ⟨Nat.lt_of_lt_of_le hb.1 h.off.size, fun hs => by rcases h.grow b hs with h1 | h1; exact hb.2.1 h1; have := hb.1; omega, hb.2.2⟩
theorem StpX.trans {rb X : Nat} {S S' S'' : Nat → Prop} {A B C : World} (h : StpX rb X S A S' B) (k : StpX rb X S' B S'' C) : StpX rb X S A S'' C :=
 ⟨h.off.trans (k.off.mono fun b hb => ⟨h.ok b hb.1, hb.2⟩), fun b hb => by
  rcases k.grow b hb with h1 | h1
  · exact h.grow b h1
  · have := h.off.size; exact .inr (by omega), k.lt⟩
theorem Stp.x {rb : Nat} {S S' : Nat → Prop} {W W' : World} (h : Stp rb S W S' W') (X : Nat) : StpX rb X S W S' W' := ⟨h.off.mono fun b hb => hb.1, h.grow, h.lt⟩
theorem StpX.old {rb X : Nat} {S S' : Nat → Prop} {W W1 W' : World} (h0 : Stp rb S W S W1) (h : StpX rb X S W1 S' W') (hX : W.heap.size ≤ X) : Stp rb S W S' W' :=
 ⟨h0.off.trans (h.off.mono fun b hb => ⟨h0.ok b hb, by have := hb.1; omega⟩), fun b hb => by
  rcases h.grow b hb with h1 | h1
  · exact .inl h1
  · have := h0.off.size; exact .inr (by omega), h.lt⟩
theorem StpX.set {rb X p n : Nat} {xs : List Value} {S : Nat → Prop} {W W' : World} (hS : ∀ b, S b → b < W.heap.size) (h : Stored W W' X p n xs) : StpX rb X S W S W' :=
 ⟨⟨h.os, h.tape, h.output, by rw [h.size]; exact Nat.le_refl _, fun b hb => h.oth b hb.2⟩, fun b hb => .inl hb, fun b hb => by rw [h.size]; exact hS b hb⟩
theorem stp_burn {rb : Nat} {S : Nat → Prop} {W W' : World} (hS : ∀ b, S b → b < W.heap.size) (h : Off (fun b => b < W.heap.size ∧ b ≠ rb) W W') : Stp rb S W S W' :=
 ⟨h.mono fun b hb => ⟨hb.1, hb.2.2⟩, fun b hb => .inl hb, fun b hb => Nat.lt_of_lt_of_le (hS b hb) h.size⟩
def RestV (ok : Nat → Prop) (a : Option Addr) (w : World) (r : Vl) (k : Nat) : Prop := r ≠ .nil → ∃ b o, a = some ⟨b, o, none⟩ ∧ ok b ∧ RowX ok w r b (o + k * 7)
theorem run_set {P deep rb c3 c4 e1 e2 : Nat} {cur root : Va} {y1 y2 a3 a4 : Option Addr} {w : World} (h : w.heap[P]? = some (.cells (runCells cur root y1 y2 a3 a4 e1 e2 c3 c4 deep rb) 120 (0, 0))) (y : Va) (v1 v2 : Option Addr) (g1 g2 : Nat) :
 ((((((((w.setCell ⟨P, 0, none⟩ (.int .u8 (y.h.kind : Nat))).setCell ⟨P, 1, none⟩ (.bool y.h.b)).setCell ⟨P, 2, none⟩ (.int .i64 y.h.n)).setCell ⟨P, 3, none⟩ (.int .u64 (y.h.bits : Nat))).setCell ⟨P, 4, none⟩ (.string y.h.text)).setCell ⟨P, 5, none⟩ (.slice v1 y.h.keys.length g1)).setCell ⟨P, 6, none⟩ (.slice v2 y.items.len g2))).heap[P]? = some (.cells (runCells y root v1 v2 a3 a4 g1 g2 c3 c4 deep rb) 120 (0, 0)) := by
 have h0 : (w.setCell ⟨P, 0, none⟩ (.int .u8 (y.h.kind : Nat))).heap[P]? = some (.cells #[.int .u8 (y.h.kind : Nat), .bool cur.h.b, .int .i64 cur.h.n, .int .u64 (cur.h.bits : Nat), .string cur.h.text, .slice y1 cur.h.keys.length e1, .slice y2 cur.items.len e2, .int .u8 (root.h.kind : Nat), .bool root.h.b, .int .i64 root.h.n, .int .u64 (root.h.bits : Nat), .string root.h.text, .slice a3 root.h.keys.length c3, .slice a4 root.items.len c4, .int .i64 (deep : Nat), .pointer (some ⟨rb, 0, none⟩)] 120 (0, 0)) := set_cells (j := 0) h _
 have h1 : ((w.setCell ⟨P, 0, none⟩ (.int .u8 (y.h.kind : Nat))).setCell ⟨P, 1, none⟩ (.bool y.h.b)).heap[P]? = some (.cells #[.int .u8 (y.h.kind : Nat), .bool y.h.b, .int .i64 cur.h.n, .int .u64 (cur.h.bits : Nat), .string cur.h.text, .slice y1 cur.h.keys.length e1, .slice y2 cur.items.len e2, .int .u8 (root.h.kind : Nat), .bool root.h.b, .int .i64 root.h.n, .int .u64 (root.h.bits : Nat), .string root.h.text, .slice a3 root.h.keys.length c3, .slice a4 root.items.len c4, .int .i64 (deep : Nat), .pointer (some ⟨rb, 0, none⟩)] 120 (0, 0)) := set_cells (j := 1) h0 _
 have h2 : (((w.setCell ⟨P, 0, none⟩ (.int .u8 (y.h.kind : Nat))).setCell ⟨P, 1, none⟩ (.bool y.h.b)).setCell ⟨P, 2, none⟩ (.int .i64 y.h.n)).heap[P]? = some (.cells #[.int .u8 (y.h.kind : Nat), .bool y.h.b, .int .i64 y.h.n, .int .u64 (cur.h.bits : Nat), .string cur.h.text, .slice y1 cur.h.keys.length e1, .slice y2 cur.items.len e2, .int .u8 (root.h.kind : Nat), .bool root.h.b, .int .i64 root.h.n, .int .u64 (root.h.bits : Nat), .string root.h.text, .slice a3 root.h.keys.length c3, .slice a4 root.items.len c4, .int .i64 (deep : Nat), .pointer (some ⟨rb, 0, none⟩)] 120 (0, 0)) := set_cells (j := 2) h1 _
 have h3 : ((((w.setCell ⟨P, 0, none⟩ (.int .u8 (y.h.kind : Nat))).setCell ⟨P, 1, none⟩ (.bool y.h.b)).setCell ⟨P, 2, none⟩ (.int .i64 y.h.n)).setCell ⟨P, 3, none⟩ (.int .u64 (y.h.bits : Nat))).heap[P]? = some (.cells #[.int .u8 (y.h.kind : Nat), .bool y.h.b, .int .i64 y.h.n, .int .u64 (y.h.bits : Nat), .string cur.h.text, .slice y1 cur.h.keys.length e1, .slice y2 cur.items.len e2, .int .u8 (root.h.kind : Nat), .bool root.h.b, .int .i64 root.h.n, .int .u64 (root.h.bits : Nat), .string root.h.text, .slice a3 root.h.keys.length c3, .slice a4 root.items.len c4, .int .i64 (deep : Nat), .pointer (some ⟨rb, 0, none⟩)] 120 (0, 0)) := set_cells (j := 3) h2 _
 have h4 : (((((w.setCell ⟨P, 0, none⟩ (.int .u8 (y.h.kind : Nat))).setCell ⟨P, 1, none⟩ (.bool y.h.b)).setCell ⟨P, 2, none⟩ (.int .i64 y.h.n)).setCell ⟨P, 3, none⟩ (.int .u64 (y.h.bits : Nat))).setCell ⟨P, 4, none⟩ (.string y.h.text)).heap[P]? = some (.cells #[.int .u8 (y.h.kind : Nat), .bool y.h.b, .int .i64 y.h.n, .int .u64 (y.h.bits : Nat), .string y.h.text, .slice y1 cur.h.keys.length e1, .slice y2 cur.items.len e2, .int .u8 (root.h.kind : Nat), .bool root.h.b, .int .i64 root.h.n, .int .u64 (root.h.bits : Nat), .string root.h.text, .slice a3 root.h.keys.length c3, .slice a4 root.items.len c4, .int .i64 (deep : Nat), .pointer (some ⟨rb, 0, none⟩)] 120 (0, 0)) := set_cells (j := 4) h3 _
 have h5 : ((((((w.setCell ⟨P, 0, none⟩ (.int .u8 (y.h.kind : Nat))).setCell ⟨P, 1, none⟩ (.bool y.h.b)).setCell ⟨P, 2, none⟩ (.int .i64 y.h.n)).setCell ⟨P, 3, none⟩ (.int .u64 (y.h.bits : Nat))).setCell ⟨P, 4, none⟩ (.string y.h.text)).setCell ⟨P, 5, none⟩ (.slice v1 y.h.keys.length g1)).heap[P]? = some (.cells #[.int .u8 (y.h.kind : Nat), .bool y.h.b, .int .i64 y.h.n, .int .u64 (y.h.bits : Nat), .string y.h.text, .slice v1 y.h.keys.length g1, .slice y2 cur.items.len e2, .int .u8 (root.h.kind : Nat), .bool root.h.b, .int .i64 root.h.n, .int .u64 (root.h.bits : Nat), .string root.h.text, .slice a3 root.h.keys.length c3, .slice a4 root.items.len c4, .int .i64 (deep : Nat), .pointer (some ⟨rb, 0, none⟩)] 120 (0, 0)) := set_cells (j := 5) h4 _
 have h6 : (((((((w.setCell ⟨P, 0, none⟩ (.int .u8 (y.h.kind : Nat))).setCell ⟨P, 1, none⟩ (.bool y.h.b)).setCell ⟨P, 2, none⟩ (.int .i64 y.h.n)).setCell ⟨P, 3, none⟩ (.int .u64 (y.h.bits : Nat))).setCell ⟨P, 4, none⟩ (.string y.h.text)).setCell ⟨P, 5, none⟩ (.slice v1 y.h.keys.length g1)).setCell ⟨P, 6, none⟩ (.slice v2 y.items.len g2)).heap[P]? = some (.cells #[.int .u8 (y.h.kind : Nat), .bool y.h.b, .int .i64 y.h.n, .int .u64 (y.h.bits : Nat), .string y.h.text, .slice v1 y.h.keys.length g1, .slice v2 y.items.len g2, .int .u8 (root.h.kind : Nat), .bool root.h.b, .int .i64 root.h.n, .int .u64 (root.h.bits : Nat), .string root.h.text, .slice a3 root.h.keys.length c3, .slice a4 root.items.len c4, .int .i64 (deep : Nat), .pointer (some ⟨rb, 0, none⟩)] 120 (0, 0)) := set_cells (j := 6) h5 _
 exact h6
theorem items_go {pos : Int} {go : Va → Nat → Ev.Rs} {o ro : List Pc} {f f2 : Nat} {h : Vh} {k r : Vl} (hr : go ⟨h, k⟩ f = ⟨ro, f2, none⟩) : (⟨o, f + 1, none⟩ : Ev.Rs).seq (itemsF pos go (.cons h k r)) = (⟨o ++ ro, f2, none⟩ : Ev.Rs).seq (itemsF pos go r) := by
 simp only [itemsF, burnF, Ev.Rs.seq, hr, List.append_assoc]
theorem items_stop {pos : Int} {go : Va → Nat → Ev.Rs} {o ro : List Pc} {f f2 : Nat} {h : Vh} {k r : Vl} {q : Nat × Int} (hr : go ⟨h, k⟩ f = ⟨ro, f2, some q⟩) : (⟨o, f + 1, none⟩ : Ev.Rs).seq (itemsF pos go (.cons h k r)) = ⟨o ++ ro, f2, some q⟩ := by
 simp only [itemsF, burnF, Ev.Rs.seq, hr]
theorem items_out {pos : Int} {go : Va → Nat → Ev.Rs} {o : List Pc} {h : Vh} {k r : Vl} : (⟨o, 0, none⟩ : Ev.Rs).seq (itemsF pos go (.cons h k r)) = ⟨o, 0, some (202, pos)⟩ := by
 simp only [itemsF, burnF, Ev.Rs.seq, List.append_nil]
set_option maxRecDepth 100000 in
set_option maxHeartbeats 40000000 in
theorem each_of_parts (D : ByteArray → Pt) (C l rb mb : Nat) (J : (Nat → Prop) → List It → World → Prop) (HJ : Lies J) (n : Nat) (hp : PartsSaid D C l rb mb J n)
 (dot root : Va) (h : Hd) (kd el : Pt) (deep f : Nat) (S : Nat → Prop) (pre : List It) (W : World) (a1 a2 a3 a4 an ak ae : Option Addr) (c1 c2 c3 c4 cn ck ce : Nat)
 (hfn : f ≤ n) (hcap : pre.length + f ≤ 1000000) (hdc : deep ≤ C) (hsh : h.sm) (hsk : kd.sm) (hse : el.sm) (hck : kd.cnt ≤ 16777216) (hce : el.cnt ≤ 16777216) (hrun : RunA D C l rb mb S f W) (hJ : J S pre W) (hok : Okd S rb W dot root a1 a2 a3 a4 c1 c2 c3 c4) (hst : Strs (okS S rb W) W (.slice an h.names.length cn) h.names) (hk : Parts (okS S rb W) W (.slice ak kd.len ck) kd) (he : Parts (okS S rb W) W (.slice ae el.len ce) el) :
 Calls Tryz.prog 132 #[.agg #[.int .u8 (dot.h.kind : Nat), .bool dot.h.b, .int .i64 dot.h.n, .int .u64 (dot.h.bits : Nat), .string dot.h.text, .slice a1 dot.h.keys.length c1, .slice a2 dot.items.len c2, .int .u8 (root.h.kind : Nat), .bool root.h.b, .int .i64 root.h.n, .int .u64 (root.h.bits : Nat), .string root.h.text, .slice a3 root.h.keys.length c3, .slice a4 root.items.len c4, .int .i64 (deep : Nat), .pointer (some ⟨rb, 0, none⟩)], .agg #[.int .u8 (h.kind : Nat), .int .i64 h.pos, .string h.text, .bool h.root, .slice an h.names.length cn, .string h.name, .slice ak kd.len ck, .slice ae el.len ce]] W (EvP C l rb mb J (eachF D C n dot root deep h kd el f) S pre W) := by
 have HB0 : Hid (Below W.heap.size W ((W.alloc (.cells #[.int .u8 (dot.h.kind : Nat), .bool dot.h.b, .int .i64 dot.h.n, .int .u64 (dot.h.bits : Nat), .string dot.h.text, .slice a1 dot.h.keys.length c1, .slice a2 dot.items.len c2, .int .u8 (root.h.kind : Nat), .bool root.h.b, .int .i64 root.h.n, .int .u64 (root.h.bits : Nat), .string root.h.text, .slice a3 root.h.keys.length c3, .slice a4 root.items.len c4, .int .i64 (deep : Nat), .pointer (some ⟨rb, 0, none⟩)] 120)).alloc (.cells #[.int .u8 (h.kind : Nat), .int .i64 h.pos, .string h.text, .bool h.root, .slice an h.names.length cn, .string h.name, .slice ak kd.len ck, .slice ae el.len ce] 56))) := (((Below.refl _ W).alloc (Nat.le_refl _) _).alloc (by simp) _)
 have HS0 : Hid (((W.alloc (.cells #[.int .u8 (dot.h.kind : Nat), .bool dot.h.b, .int .i64 dot.h.n, .int .u64 (dot.h.bits : Nat), .string dot.h.text, .slice a1 dot.h.keys.length c1, .slice a2 dot.items.len c2, .int .u8 (root.h.kind : Nat), .bool root.h.b, .int .i64 root.h.n, .int .u64 (root.h.bits : Nat), .string root.h.text, .slice a3 root.h.keys.length c3, .slice a4 root.items.len c4, .int .i64 (deep : Nat), .pointer (some ⟨rb, 0, none⟩)] 120)).alloc (.cells #[.int .u8 (h.kind : Nat), .int .i64 h.pos, .string h.text, .bool h.root, .slice an h.names.length cn, .string h.name, .slice ak kd.len ck, .slice ae el.len ce] 56)).heap.size = W.heap.size + 2) := by unfold Hid; simp
 have HT : Hid (∀ W0, ((W.alloc (.cells #[.int .u8 (dot.h.kind : Nat), .bool dot.h.b, .int .i64 dot.h.n, .int .u64 (dot.h.bits : Nat), .string dot.h.text, .slice a1 dot.h.keys.length c1, .slice a2 dot.items.len c2, .int .u8 (root.h.kind : Nat), .bool root.h.b, .int .i64 root.h.n, .int .u64 (root.h.bits : Nat), .string root.h.text, .slice a3 root.h.keys.length c3, .slice a4 root.items.len c4, .int .i64 (deep : Nat), .pointer (some ⟨rb, 0, none⟩)] 120)).alloc (.cells #[.int .u8 (h.kind : Nat), .int .i64 h.pos, .string h.text, .bool h.root, .slice an h.names.length cn, .string h.name, .slice ak kd.len ck, .slice ae el.len ce] 56)) = W0 → W0.heap[W.heap.size]? = some (.cells #[.int .u8 (dot.h.kind : Nat), .bool dot.h.b, .int .i64 dot.h.n, .int .u64 (dot.h.bits : Nat), .string dot.h.text, .slice a1 dot.h.keys.length c1, .slice a2 dot.items.len c2, .int .u8 (root.h.kind : Nat), .bool root.h.b, .int .i64 root.h.n, .int .u64 (root.h.bits : Nat), .string root.h.text, .slice a3 root.h.keys.length c3, .slice a4 root.items.len c4, .int .i64 (deep : Nat), .pointer (some ⟨rb, 0, none⟩)] 120 (0, 0)) ∧ W0.heap[W.heap.size + 1]? = some (.cells #[.int .u8 (h.kind : Nat), .int .i64 h.pos, .string h.text, .bool h.root, .slice an h.names.length cn, .string h.name, .slice ak kd.len ck, .slice ae el.len ce] 56 (0, 0))) := by
  rintro W0 rfl
  have s1 : (W.alloc (.cells #[.int .u8 (dot.h.kind : Nat), .bool dot.h.b, .int .i64 dot.h.n, .int .u64 (dot.h.bits : Nat), .string dot.h.text, .slice a1 dot.h.keys.length c1, .slice a2 dot.items.len c2, .int .u8 (root.h.kind : Nat), .bool root.h.b, .int .i64 root.h.n, .int .u64 (root.h.bits : Nat), .string root.h.text, .slice a3 root.h.keys.length c3, .slice a4 root.items.len c4, .int .i64 (deep : Nat), .pointer (some ⟨rb, 0, none⟩)] 120 (0, 0))).heap.size = W.heap.size + 1 := by simp
  refine ⟨?_, ?_⟩
  · rw [Below.heap_alloc _ _ _ (by omega)]
    exact heap_alloc_new W _
  · skip
    have := heap_alloc_new (W.alloc (.cells #[.int .u8 (dot.h.kind : Nat), .bool dot.h.b, .int .i64 dot.h.n, .int .u64 (dot.h.bits : Nat), .string dot.h.text, .slice a1 dot.h.keys.length c1, .slice a2 dot.items.len c2, .int .u8 (root.h.kind : Nat), .bool root.h.b, .int .i64 root.h.n, .int .u64 (root.h.bits : Nat), .string root.h.text, .slice a3 root.h.keys.length c3, .slice a4 root.items.len c4, .int .i64 (deep : Nat), .pointer (some ⟨rb, 0, none⟩)] 120 (0, 0))) (.cells #[.int .u8 (h.kind : Nat), .int .i64 h.pos, .string h.text, .bool h.root, .slice an h.names.length cn, .string h.name, .slice ak kd.len ck, .slice ae el.len ce] 56 (0, 0)); rwa [s1] at this
 have hst0 := hrun.stp HB0.out
 have HST0 := Lib.hid hst0
 have HOK0 := Lib.hid (hok.step hst0)
 have HRUN0 := Lib.hid (hrun.below HB0.out)
 have HJ0 := Lib.hid (HJ _ _ _ _ hJ (off_below hrun.lt HB0.out))
 have HSTR0 := Lib.hid (hst0.strs hst)
 have HKD0 := Lib.hid (hst0.parts hk)
 have HEL0 := Lib.hid (hst0.parts he)
 have HP := Lib.hid hp
 have HJJ := Lib.hid HJ
 have HNEW : Hid (∀ W', W.heap.size + 1 < W'.heap.size → okS S rb W' W.heap.size ∧ okS S rb W' (W.heap.size + 1)) := fun W' hW => ⟨hrun.new (Nat.le_refl _) (by omega), hrun.new (by omega) hW⟩
 have hln : h.names.length ≤ 140737488351232 := by have := hsh.2.2.2.1; omega
 have HRUNW := Lib.hid hrun
 have HOKW := Lib.hid hok
 have HKDW := Lib.hid hk
 clear hst0 hrun hJ hok hst hk he hp HJ hsh
 go_enter Tryz.func132, Tryz.ntmps132
 go_upto_region 1 with (fail)
 try simp only [Nat.add_assoc, Nat.reduceAdd]
 generalize hWW : World.alloc (World.alloc W _) _ = W0 at *
 obtain ⟨hr0, hp0⟩ := HT.out W0 rfl
 clear hWW HT
 have hz0 : W0.heap.size = W.heap.size + 2 := HS0.out
 have HR0 := Lib.hid hr0
 have HP0 := Lib.hid hp0
 have SG : Hid (Calls Tryz.prog 130 #[.agg #[.int .u8 (dot.h.kind : Nat), .bool dot.h.b, .int .i64 dot.h.n, .int .u64 (dot.h.bits : Nat), .string dot.h.text, .slice a1 dot.h.keys.length c1, .slice a2 dot.items.len c2, .int .u8 (root.h.kind : Nat), .bool root.h.b, .int .i64 root.h.n, .int .u64 (root.h.bits : Nat), .string root.h.text, .slice a3 root.h.keys.length c3, .slice a4 root.items.len c4], .agg #[.int .u8 (h.kind : Nat), .int .i64 h.pos, .string h.text, .bool h.root, .slice an h.names.length cn, .string h.name, .slice ak kd.len ck, .slice ae el.len ce]] W0 (SgP (getF h.names (if h.root then root else dot)) h.pos W0)) :=
  sget_calls dot root h HOK0.out.dsm HOK0.out.rsm hln _ a1 a2 a3 a4 an ak ae c1 c2 c3 c4 cn kd.len ck el.len ce W0 HOK0.out.dot HOK0.out.root HSTR0.out
 obtain ⟨q0, q1, q2, q3, q4, q5, q6, q7, q8, q9, q10, q11, q12, q13, q14, q15⟩ := runCs (P := W.heap.size) (dot := dot) (root := root) (a1 := a1) (a2 := a2) (a3 := a3) (a4 := a4) (c1 := c1) (c2 := c2) (c3 := c3) (c4 := c4) (deep := deep) (rb := rb) hr0
 obtain ⟨p0, p1, p2, p3, p4, p5, p6, p7⟩ := pcCs (P := W.heap.size + 1) (h := h) hp0
 have hlR : W.heap.size < W0.heap.size := by omega
 have hlP : W.heap.size + 1 < W0.heap.size := by omega
 clear hr0 hp0
 go_wp2_with fail
 refine SG.out.mono ?_
 rintro e w1 ⟨hb1, hres⟩
 have HB1 := Lib.hid hb1
 have hz1 : W.heap.size + 2 ≤ w1.heap.size := by have := hb1.size; omega
 have HST1 := Lib.hid (HRUN0.out.stp hb1)
 have HRUN1 := Lib.hid (HRUN0.out.below hb1)
 have HJ1 := Lib.hid (HJJ.out _ _ _ _ HJ0.out (off_below HRUN0.out.lt hb1))
 have HR1 := Lib.hid ((hb1.block _ hlR).trans HR0.out)
 have HP1 := Lib.hid ((hb1.block _ hlP).trans HP0.out)
 clear hb1 SG q0 q1 q2 q3 q4 q5 q6 q7 q8 q9 q10 q11 q12 q13 q14 q15 p0 p1 p2 p3 p4 p5 p6 p7
 obtain ⟨G, hG⟩ : ∃ G, getF h.names (if h.root then root else dot) = G := ⟨_, rfl⟩
 have HG := Lib.hid hG
 rw [hG] at hres
 clear hG
 cases G with
 | error x =>
   obtain rfl := hres
   have HEF : Hid (eachF D C n dot root deep h kd el f = ⟨[], f, some (x, h.pos)⟩) := by unfold Hid eachF; rw [HG.out]
   go_wp2_with fail
   rw [HEF.out]
   exact ⟨rfl, S, [], by rw [List.append_nil]; exact HJ1.out, rfl, HST0.out.trans HST1.out, rfl⟩
 | ok x =>
   obtain ⟨b1, d1, b2, d2, rfl, hvs, hsx⟩ := hres
   have HVS := Lib.hid hvs
   have HSX := Lib.hid hsx
   have HEF0 : Hid (eachF D C n dot root deep h kd el f = if x.h.kind = 6 then if x.items.len = 0 then listF (evF D C n dot root deep) el f else itemsF h.pos (fun x => listF (evF D C n x root deep) kd) x.items f else ⟨[], f, some (201, h.pos)⟩) := by unfold Hid eachF; rw [HG.out]
   clear hvs hsx
   have HA : Hid (Below w1.heap.size w1 (w1.alloc (.cells #[.int .u8 (x.h.kind : Nat), .bool x.h.b, .int .i64 x.h.n, .int .u64 (x.h.bits : Nat), .string x.h.text, .slice b1 x.h.keys.length d1, .slice b2 x.items.len d2] 31))) := (Below.refl _ w1).alloc (Nat.le_refl _) _
   have HAT : Hid ((w1.alloc (.cells #[.int .u8 (x.h.kind : Nat), .bool x.h.b, .int .i64 x.h.n, .int .u64 (x.h.bits : Nat), .string x.h.text, .slice b1 x.h.keys.length d1, .slice b2 x.items.len d2] 31)).heap[w1.heap.size]? = some (.cells (xCells x.h (.slice b1 x.h.keys.length d1) (.slice b2 x.items.len d2)) 31 (0, 0))) := heap_alloc_new w1 _
   go_upto_region 2 with (fail)
   generalize hWW : World.alloc w1 _ = W2 at *
   clear hWW
   have HST2 := Lib.hid (HST1.out.trans (HRUN1.out.stp HA.out))
   have HRUN2 := Lib.hid (HRUN1.out.below HA.out)
   have HJ2 := Lib.hid (HJJ.out _ _ _ _ HJ1.out (off_below HRUN1.out.lt HA.out))
   have HR2 : Hid (W2.heap[W.heap.size]? = some (.cells (runCells dot root a1 a2 a3 a4 c1 c2 c3 c4 deep rb) 120 (0, 0))) := (HA.out.block _ (by omega)).trans HR1.out
   have HP2 := Lib.hid ((HA.out.block _ (by omega)).trans HP1.out)
   have hz2 : w1.heap.size < W2.heap.size := lt_of_block HAT.out
   have HV2 : Hid (ValS (fun b => okS S rb W2 b ∧ b ≠ W.heap.size) W2 x b1 d1 b2 d2) := (HVS.out.kept (fun b hb => HA.out.block b hb.2.1)).mono (fun b hb => ⟨HRUN0.out.new hb.1 (by have := hb.2.1; omega), by have := hb.1; omega⟩)
   obtain ⟨x0, x1, x2, x3, x4, x5, x6⟩ := xcCs HAT.out
   obtain ⟨p0, p1, p2, p3, p4, p5, p6, p7⟩ := pcCs (P := W.heap.size + 1) (h := h) HP2.out
   by_cases h6 : x.h.kind = 6
   · have j6 : ((x.h.kind : Int) == 6) = true := by rw [h6]; rfl
     have k6 : ((x.h.kind : Int) != 6) = false := by rw [h6]; rfl
     have HEF1 : Hid (eachF D C n dot root deep h kd el f = if x.items.len = 0 then listF (evF D C n dot root deep) el f else itemsF h.pos (fun x => listF (evF D C n x root deep) kd) x.items f) := by unfold Hid; rw [HEF0.out, if_pos h6]
     clear h6
     by_cases h0 : x.items.len = 0
     · have i0 : (x.items.len : Int) = 0 := by omega
       have HEF2 : Hid (eachF D C n dot root deep h kd el f = listF (evF D C n dot root deep) el f) := by unfold Hid; rw [HEF1.out, if_pos h0]
       obtain ⟨q0, q1, q2, q3, q4, q5, q6, q7, q8, q9, q10, q11, q12, q13, q14, q15⟩ := runCs HR2.out
       have PC : Hid (Calls Tryz.prog 52 #[.agg #[.int .u8 (dot.h.kind : Nat), .bool dot.h.b, .int .i64 dot.h.n, .int .u64 (dot.h.bits : Nat), .string dot.h.text, .slice a1 dot.h.keys.length c1, .slice a2 dot.items.len c2, .int .u8 (root.h.kind : Nat), .bool root.h.b, .int .i64 root.h.n, .int .u64 (root.h.bits : Nat), .string root.h.text, .slice a3 root.h.keys.length c3, .slice a4 root.items.len c4, .int .i64 (deep : Nat), .pointer (some ⟨rb, 0, none⟩)], .slice ae el.len ce] W2 (EvP C l rb mb J (listF (evF D C n dot root deep) el f) S pre W2)) :=
        HP.out dot root el deep f S pre W2 a1 a2 a3 a4 ae c1 c2 c3 c4 ce hfn hcap hdc hse hce HRUN2.out HJ2.out (HOK0.out.step HST2.out) (HST2.out.parts HEL0.out)
       clear h0
       go_wp2_with fail
       refine PC.out.mono ?_
       rintro e w3 hev
       have hev2 := EvP.of_stp0 (HST0.out.trans HST2.out) hev
       rw [← HEF2.out] at hev2
       have HEV := Lib.hid hev2
       obtain ⟨S3, ys, -, -, -, hend⟩ := hev
       clear hev2 PC
       generalize hq : (listF (evF D C n dot root deep) el f).err = q at *
       cases q with
       | none =>
         obtain ⟨rfl, -⟩ := hend
         go_wp2_with fail
         go_ret
         exact HEV.out
       | some q =>
         obtain ⟨qn, qp⟩ := q
         obtain rfl := hend
         go_wp2_with fail
         exact ⟨rfl, HEV.out⟩
     · have i0 : ¬ (x.items.len : Int) = 0 := by omega
       have j0 : ((x.items.len : Int) == 0) = false := beq_eq_false_iff_ne.2 i0
       have HEF2 : Hid (eachF D C n dot root deep h kd el f = itemsF h.pos (fun x => listF (evF D C n x root deep) kd) x.items f) := by unfold Hid; rw [HEF1.out, if_neg h0]
       have HIT : Hid (RestV (fun b => okS S rb W2 b ∧ b ≠ W.heap.size) b2 W2 x.items 0) := by
        intro hne
        obtain ⟨a', c', hv, -, -, h3⟩ := HV2.out.2
        cases hv
        obtain ⟨b, o, h4, h5, h6⟩ := h3 hne
        exact ⟨b, o, h4, h5, by rw [Nat.zero_mul, Nat.add_zero]; exact h6⟩
       clear h0
       go_upto_region 6 with (fail)
       go_wp2_with fail
       clear x0 x1 x2 x3 x4 x5 x6 p0 p1 p2 p3 p4 p5 p6 p7
       have hlx : x.items.len ≤ 16777216 := Nat.le_trans (len_le_cntX x.items) HSX.out.2.2
       go_loopw [30] (fun i wr => ∃ (k f' : Nat) (r : Vl) (S' : Nat → Prop) (xs : List It) (cur : Va) (y1 y2 : Option Addr) (e1 e2 : Nat), i = .int .i64 (k : Nat) ∧ k + r.len = x.items.len ∧ f' ≤ f ∧ xs.length + f' ≤ f ∧ Hid (J S' (pre ++ xs) wr) ∧ Hid (StpX rb W.heap.size S W2 S' wr) ∧ Hid (wr.heap[rb]? = some (restC mb f' C l)) ∧
        Hid (wr.heap[W.heap.size]? = some (.cells (runCells cur root y1 y2 a3 a4 e1 e2 c3 c4 deep rb) 120 (0, 0))) ∧
        Hid (itemsF h.pos (fun x => listF (evF D C n x root deep) kd) x.items f = (⟨xs.map It.pc, f', none⟩ : Ev.Rs).seq (itemsF h.pos (fun x => listF (evF D C n x root deep) kd) r)) ∧ Hid (RestV (fun b => okS S rb W2 b ∧ b ≠ W.heap.size) b2 W2 r k) ∧ Hid (smX r) ∧ cntX r ≤ cntX x.items) (fun i _ => x.items.len - (intOf i).toNat)
       case atStart => exact ⟨0, f, x.items, S, [], dot, a1, a2, c1, c2, rfl, by omega, Nat.le_refl _, by simp, by rw [List.append_nil]; exact HJ2, (Stp.below HRUN2.out.lt (Below.refl _ _)).x _, HRUN2.out.rest, HR2, by unfold Hid; rw [List.map_nil, nil_seq], HIT, HSX.out.2.1, Nat.le_refl _⟩
       case round =>
        obtain ⟨k, f', r, S', xs, cur, y1, y2, e1, e2, rfl, hk, hff, hlx, HJr, HST, HRE, HRB, HEQ, HR, HSR, hcn⟩ := hrel
        cases r with
        | nil =>
          simp only [Vl.len] at hk
          have hge : ¬ (k : Int) < (x.items.len : Int) := by omega
          have HOUT : Hid (eachF D C n dot root deep h kd el f = ⟨xs.map It.pc, f', none⟩) := by unfold Hid; rw [HEF2.out, HEQ.out]; simp [itemsF, Ev.Rs.seq]
          go_wp2_with fail
          go_ret
          rw [HOUT.out]
          exact ⟨S', xs, HJr.out, rfl, StpX.old (HST0.out.trans HST2.out) HST.out (Nat.le_refl _), rfl, HRE.out⟩
        | cons yh yk r =>
          simp only [Vl.len] at hk
          simp only [cntX] at hcn
          have hlt' : (k : Int) < (x.items.len : Int) := by omega
          have hk0 : (0 : Int) ≤ (k : Int) := by omega
          obtain ⟨b, o, rfl, hb, hrow⟩ := HR.out (by simp)
          have HRS : Hid (RestV (fun b => okS S rb W2 b ∧ b ≠ W.heap.size) (some ⟨b, o, none⟩) W2 r (k + 1)) := fun _ => ⟨b, o, rfl, hb, by have := hrow.2.2; rwa [show o + k * 7 + 7 = o + (k + 1) * 7 by omega] at this⟩
          obtain ⟨hsh, hsk2, hsr⟩ := HSR.out
          have HSR2 := Lib.hid hsr
          obtain ⟨y, hy⟩ : ∃ y : Va, y = ⟨yh, yk⟩ := ⟨_, rfl⟩
          obtain ⟨rfl, rfl⟩ : yh = y.h ∧ yk = y.items := by rw [hy]; exact ⟨rfl, rfl⟩
          clear hy
          have hsy : Va.sm y := ⟨hsh, hsk2, by have := HSX.out.2.2; omega⟩
          have HSY := Lib.hid hsy
          have hkr := RowX.kept (HST.out.off.block) _ _ _ hb hrow
          obtain ⟨⟨g0, g1', g2', g3, g4, vn, g5, hstr⟩, ⟨v2, g2, g6, k1, k2, k3⟩, -⟩ := hkr
          obtain ⟨v1, g1, rfl⟩ := hstr.cases
          have HVY : Hid (ValS (fun b => okS S rb W2 b ∧ b ≠ W.heap.size) wr y v1 g1 v2 g2) := ⟨hstr, v2, g2, rfl, k1, k2, k3⟩
          have hbl : b < wr.heap.size := (HST.out.ok b hb.1).1
          have hW2 := HNEW.out W2 (by omega)
          have hrl : W.heap.size < wr.heap.size := (HST.out.ok _ hW2.1).1
          have hpl : W.heap.size + 1 < wr.heap.size := (HST.out.ok _ hW2.2).1
          have HRX : Hid (okS S' rb wr W.heap.size) := HST.out.ok _ hW2.1
          have HP3 : Hid (wr.heap[W.heap.size + 1]? = some (.cells (pCells h (.slice an h.names.length cn) (.slice ak kd.len ck) (.slice ae el.len ce)) 56 (0, 0))) := (HST.out.off.block _ ⟨hW2.2, by omega⟩).trans HP2.out
          obtain ⟨p0, p1, p2, p3, p4, p5, p6, p7⟩ := pcCs HP3.out
          obtain ⟨q0, q1, q2, q3, q4, q5, q6, q7, q8, q9, q10, q11, q12, q13, q14, q15⟩ := runCs HRB.out
          have HA : Hid (Below wr.heap.size wr (wr.alloc (.cells #[.int .u8 (y.h.kind : Nat), .bool y.h.b, .int .i64 y.h.n, .int .u64 (y.h.bits : Nat), .string y.h.text, .slice v1 y.h.keys.length g1, .slice v2 y.items.len g2] 31))) := (Below.refl _ wr).alloc (Nat.le_refl _) _
          have HAX : Hid ((wr.alloc (.cells #[.int .u8 (y.h.kind : Nat), .bool y.h.b, .int .i64 y.h.n, .int .u64 (y.h.bits : Nat), .string y.h.text, .slice v1 y.h.keys.length g1, .slice v2 y.items.len g2] 31)).heap[wr.heap.size]? = some (.cells (xCells y.h (.slice v1 y.h.keys.length g1) (.slice v2 y.items.len g2)) 31 (0, 0))) := heap_alloc_new wr _
          have HAZ : Hid ((wr.alloc (.cells #[.int .u8 (y.h.kind : Nat), .bool y.h.b, .int .i64 y.h.n, .int .u64 (y.h.bits : Nat), .string y.h.text, .slice v1 y.h.keys.length g1, .slice v2 y.items.len g2] 31)).heap.size = wr.heap.size + 1) := by unfold Hid; simp
          have hltS : ∀ b, S' b → b < wr.heap.size := HST.out.lt
          have HSTA := Lib.hid (HST.out.trans ((Stp.below hltS HA.out).x W.heap.size))
          have hrbl := lt_of_block HRE.out
          have HREA := Lib.hid ((HA.out.block _ hrbl).trans HRE.out)
          have HJA := Lib.hid (HJJ.out _ _ _ _ HJr.out (off_below hltS HA.out))
          have HKI := Lib.hid hk
          have hki : k + 1 + r.len ≤ x.items.len := by omega
          have HVB : Hid (∀ W', Kept (fun b => okS S rb W2 b ∧ b ≠ W.heap.size) wr W' → ValS (fun b => okS S rb W2 b ∧ b ≠ W.heap.size) W' y v1 g1 v2 g2) := fun W' hW => HVY.out.kept hW
          have HRBA := Lib.hid ((HA.out.block _ hrl).trans HRB.out)
          have HPA := Lib.hid ((HA.out.block _ hpl).trans HP3.out)
          clear hrow hsh hsk2 hsr hstr k3 hk hb hsy hW2
          have BC : Hid (Calls Tryz.prog 129 #[.agg #[.int .u8 (cur.h.kind : Nat), .bool cur.h.b, .int .i64 cur.h.n, .int .u64 (cur.h.bits : Nat), .string cur.h.text, .slice y1 cur.h.keys.length e1, .slice y2 cur.items.len e2, .int .u8 (root.h.kind : Nat), .bool root.h.b, .int .i64 root.h.n, .int .u64 (root.h.bits : Nat), .string root.h.text, .slice a3 root.h.keys.length c3, .slice a4 root.items.len c4, .int .i64 (deep : Nat), .pointer (some ⟨rb, 0, none⟩)], .agg #[.int .u8 (h.kind : Nat), .int .i64 h.pos, .string h.text, .bool h.root, .slice an h.names.length cn, .string h.name, .slice ak kd.len ck, .slice ae el.len ce]] (wr.alloc (.cells #[.int .u8 (y.h.kind : Nat), .bool y.h.b, .int .i64 y.h.n, .int .u64 (y.h.bits : Nat), .string y.h.text, .slice v1 y.h.keys.length g1, .slice v2 y.items.len g2] 31)) (BuP mb C l rb h.pos (wr.alloc (.cells #[.int .u8 (y.h.kind : Nat), .bool y.h.b, .int .i64 y.h.n, .int .u64 (y.h.bits : Nat), .string y.h.text, .slice v1 y.h.keys.length g1, .slice v2 y.items.len g2] 31)) f')) :=
           burn_calls cur root h deep rb mb C l f' (by have := HRUN2.out.fl; omega) y1 y2 a3 a4 an ak ae e1 e2 c3 c4 cn kd.len ck el.len ce _ HREA.out
          go_upto_region 9 with (fail)
          generalize hWW : World.alloc wr _ = wa at *
          clear hWW g0 g1' g2' g3 g4 g5 g6 p0 p1 p2 p3 p4 p5 p6 p7 q0 q1 q2 q3 q4 q5 q6 q7 q8 q9 q10 q11 q12 q13 q14 q15
          obtain ⟨p0, p1, p2, p3, p4, p5, p6, p7⟩ := pcCs HPA.out
          obtain ⟨q0, q1, q2, q3, q4, q5, q6, q7, q8, q9, q10, q11, q12, q13, q14, q15⟩ := runCs HRBA.out
          cases f' with
          | zero =>
            have HOUT : Hid (eachF D C n dot root deep h kd el f = ⟨xs.map It.pc, 0, some (202, h.pos)⟩) := by unfold Hid; rw [HEF2.out, HEQ.out, items_out]
            go_wp2_with fail
            refine BC.out.mono ?_
            rintro e w3 ⟨rfl, hb3⟩
            have HJ3 := Lib.hid (HJJ.out _ _ _ _ HJA.out (off_below HSTA.out.lt hb3))
            have HST3 := Lib.hid (HSTA.out.trans ((Stp.below HSTA.out.lt hb3).x W.heap.size))
            clear hb3 BC
            go_wp2_with fail
            rw [HOUT.out]
            exact ⟨rfl, S', xs, HJ3.out, rfl, StpX.old (HST0.out.trans HST2.out) HST3.out (Nat.le_refl _), rfl⟩
          | succ f' =>
            go_wp2_with fail
            refine BC.out.mono ?_
            rintro e w3 ⟨rfl, hre3, hoff3⟩
            have hnS : ¬ S' rb := fun hs => by
             rcases HST.out.grow rb hs with h1 | h1
             · exact HRUN2.out.rbS h1
             · have := lt_of_block HRUN2.out.rest; omega
            have HST3 := Lib.hid (HSTA.out.trans ((stp_burn HSTA.out.lt hoff3).x W.heap.size))
            have HJ3 := Lib.hid (HJJ.out _ _ _ _ HJA.out (hoff3.mono fun b hb => ⟨HSTA.out.lt b hb, fun e => hnS (by rw [← e]; exact hb)⟩))
            have HRE3 := Lib.hid hre3
            have hw3 := hoff3.size
            have HRB3 : Hid (w3.heap[W.heap.size]? = some (.cells (runCells cur root y1 y2 a3 a4 e1 e2 c3 c4 deep rb) 120 (0, 0))) := (hoff3.block _ ⟨by rw [HAZ.out]; omega, HRX.out.2.2⟩).trans HRBA.out
            have HAX3 := Lib.hid ((hoff3.block _ ⟨by rw [HAZ.out]; omega, by omega⟩).trans HAX.out)
            have HK3 : Hid (Kept (fun b => okS S rb W2 b ∧ b ≠ W.heap.size) wr w3) := fun b hb => (hoff3.block b ⟨by have := (HST.out.ok b hb.1).1; rw [HAZ.out]; omega, hb.1.2.2⟩).trans (HA.out.block b (HST.out.ok b hb.1).1)
            clear hre3 hoff3 BC q0 q1 q2 q3 q4 q5 q6 q7 q8 q9 q10 q11 q12 q13 q14 q15 p0 p1 p2 p3 p4 p5 p6 p7
            obtain ⟨q0, q1, q2, q3, q4, q5, q6, q7, q8, q9, q10, q11, q12, q13, q14, q15⟩ := runCs HRB3.out
            obtain ⟨x0, x1, x2, x3, x4, x5, x6⟩ := xcCs HAX3.out
            have qf := frozen_cells HRB3.out
            go_upto_region 11 with (fail)
            have HSTO := Lib.hid (set7 (p := 0) (.int .u8 (y.h.kind : Nat)) (.bool y.h.b) (.int .i64 y.h.n) (.int .u64 (y.h.bits : Nat)) (.string y.h.text) (.slice v1 y.h.keys.length g1) (.slice v2 y.items.len g2) q0 q1 q2 q3 q4 q5 q6)
            simp only [Nat.zero_add] at HSTO
            have HB16 := Lib.hid (run_set HRB3.out y v1 v2 g1 g2)
            generalize hWW : World.setCell _ _ _ = w4 at *
            clear hWW q0 q1 q2 q3 q4 q5 q6 q7 q8 q9 q10 q11 q12 q13 q14 q15 x0 x1 x2 x3 x4 x5 x6 qf
            have hne3 : W.heap.size ≠ rb := HRX.out.2.2
            have HST4 := Lib.hid (HST3.out.trans (StpX.set HST3.out.lt HSTO.out))
            have HJ4 := Lib.hid (HJJ.out _ _ _ _ HJ3.out ⟨HSTO.out.os, HSTO.out.tape, HSTO.out.output, by rw [HSTO.out.size]; exact Nat.le_refl _, fun b hb => HSTO.out.oth b (fun e => HRX.out.2.1 (by rw [← e]; exact hb))⟩)
            have HRE4 := Lib.hid ((HSTO.out.oth rb (fun e => hne3 e.symm)).trans HRE3.out)
            have HP4 : Hid (w4.heap[W.heap.size + 1]? = some (.cells (pCells h (.slice an h.names.length cn) (.slice ak kd.len ck) (.slice ae el.len ce)) 56 (0, 0))) := (HST4.out.off.block _ ⟨(HNEW.out W2 (by omega)).2, by omega⟩).trans HP2.out
            obtain ⟨p0, p1, p2, p3, p4, p5, p6, p7⟩ := pcCs HP4.out
            obtain ⟨q0, q1, q2, q3, q4, q5, q6, q7, q8, q9, q10, q11, q12, q13, q14, q15⟩ := runCs HB16.out
            have HO4 := Lib.hid (StpX.old (HST0.out.trans HST2.out) HST4.out (Nat.le_refl _))
            have HRUN4 := Lib.hid (HRUNW.out.step HO4.out HRE4.out (by omega))
            have HVY4 : Hid (ValS (okS S' rb w4) w4 y v1 g1 v2 g2) := ((HVY.out.kept HK3.out).kept (fun b hb => HSTO.out.oth b hb.2)).mono (fun b hb => HST4.out.ok b hb.1)
            have PC : Hid (Calls Tryz.prog 52 #[.agg #[.int .u8 (y.h.kind : Nat), .bool y.h.b, .int .i64 y.h.n, .int .u64 (y.h.bits : Nat), .string y.h.text, .slice v1 y.h.keys.length g1, .slice v2 y.items.len g2, .int .u8 (root.h.kind : Nat), .bool root.h.b, .int .i64 root.h.n, .int .u64 (root.h.bits : Nat), .string root.h.text, .slice a3 root.h.keys.length c3, .slice a4 root.items.len c4, .int .i64 (deep : Nat), .pointer (some ⟨rb, 0, none⟩)], .slice ak kd.len ck] w4 (EvP C l rb mb J (listF (evF D C n y root deep) kd f') S' (pre ++ xs) w4)) :=
             HP.out y root kd deep f' S' (pre ++ xs) w4 v1 v2 a3 a4 ak g1 g2 c3 c4 ck (by omega) (by rw [List.length_append]; omega) hdc hsk hck HRUN4.out HJ4.out ⟨HSY.out, HOKW.out.rsm, HVY4.out, HO4.out.vals HOKW.out.root⟩ (HO4.out.parts HKDW.out)
            have hle : (listF (evF D C n y root deep) kd f').fuel ≤ f' := less_list (F := f') (fun x k e f _ => less_ev n y root deep x k e f) kd f' (Nat.le_refl _)
            obtain ⟨ro, hro⟩ : ∃ ro, listF (evF D C n y root deep) kd f' = ro := ⟨_, rfl⟩
            have hcst := cost_list (F := f') (fun x k e f _ => cost_ev (D := D) (C := C) n y root deep x k e f) kd f' (Nat.le_refl _)
            rw [hro] at PC hle hcst
            obtain ⟨ro, rf, re⟩ := ro
            have hcs : ro.length + rf ≤ f' := hcst
            clear hcst
            have HRO : Hid ((fun x => listF (evF D C n x root deep) kd) ⟨y.h, y.items⟩ f' = ⟨ro, rf, re⟩) := hro
            clear hro
            go_wp2_with fail
            refine PC.out.mono ?_
            rintro e w5 ⟨S5, ys, hJ5, hout, hst5, hend⟩
            have HJ5 := Lib.hid hJ5
            have HOUT5 := Lib.hid hout
            have HST5 := Lib.hid (HST4.out.trans (hst5.x W.heap.size))
            have HRB5 := Lib.hid ((hst5.off.block W.heap.size ⟨(lt_of_block HB16.out), HRX.out.2.1, HRX.out.2.2⟩).trans HB16.out)
            clear hJ5 hout hst5 PC p0 p1 p2 p3 p4 p5 p6 p7 q0 q1 q2 q3 q4 q5 q6 q7 q8 q9 q10 q11 q12 q13 q14 q15
            cases re with
            | none =>
              obtain ⟨rfl, hre⟩ := hend
              have HRE5 := Lib.hid hre
              have HEQ5 : Hid (itemsF h.pos (fun x => listF (evF D C n x root deep) kd) x.items f = (⟨(xs ++ ys).map It.pc, rf, none⟩ : Ev.Rs).seq (itemsF h.pos (fun x => listF (evF D C n x root deep) kd) r)) := by
               unfold Hid
               rw [HEQ.out, items_go HRO.out, List.map_append, HOUT5.out]
              have HJ6 : Hid (J S5 (pre ++ (xs ++ ys)) w5) := by unfold Hid; rw [← List.append_assoc]; exact HJ5.out
              have hle2 : rf ≤ f' := hle
              clear hre hle
              go_wp2_with fail
              go_roundw
              case rel => exact ⟨k + 1, rf, r, S5, xs ++ ys, y, v1, v2, g1, g2, by go_num, by have := HKI.out; omega, by omega, by have h5 := congrArg List.length HOUT5.out; rw [List.length_map] at h5; rw [List.length_append]; omega, HJ6, HST5, HRE5, HRB5, HEQ5, HRS, HSR2, by omega⟩
              case measure => simp [intOf]; have := HKI.out; omega
            | some q =>
              obtain ⟨qn, qp⟩ := q
              obtain rfl := hend
              have HOUT : Hid (eachF D C n dot root deep h kd el f = ⟨xs.map It.pc ++ ro, rf, some (qn, qp)⟩) := by unfold Hid; rw [HEF2.out, HEQ.out, items_stop HRO.out]
              go_wp2_with fail
              rw [HOUT.out]
              exact ⟨rfl, S5, xs ++ ys, by rw [← List.append_assoc]; exact HJ5.out, by rw [List.map_append, HOUT5.out], StpX.old (HST0.out.trans HST2.out) HST5.out (Nat.le_refl _), rfl⟩
   · have i6 : ¬ (x.h.kind : Int) = 6 := by omega
     have j6 : ((x.h.kind : Int) == 6) = false := beq_eq_false_iff_ne.2 i6
     have k6 : ((x.h.kind : Int) != 6) = true := by simp only [bne, j6]; rfl
     have HEF1 : Hid (eachF D C n dot root deep h kd el f = ⟨[], f, some (201, h.pos)⟩) := by unfold Hid; rw [HEF0.out, if_neg h6]
     clear h6
     go_wp2_with fail
     rw [HEF1.out]
     exact ⟨rfl, S, [], by rw [List.append_nil]; exact HJ2.out, rfl, HST0.out.trans HST2.out, rfl⟩
open Go Go.RowKit Go.Shelf Ev
structure RgI (base m sz : Nat) (vals : Nat → Value) (p2 p3 : Value) (listed : Array Bool) (a : Act) : Prop where
 dfr : a.defers = []
 size : a.tmps.size = sz
 t2 : a.tmps.getD 2 undef = p2
 t3 : a.tmps.getD 3 undef = p3
 val : ∀ i, i < m → listed.getD i false = true → a.tmps.getD (base + i) undef = vals i
 res : listed.getD m false = true → a.tmps.getD 4 undef = .bool true
theorem getD_set_same {α : Type} (t : Array α) (d : Nat) (v u : α) (h : d < t.size) : (t.setIfInBounds d v).getD d u = v := by
 simp [Array.getD, h]
theorem getD_set_other {α : Type} (t : Array α) (d j : Nat) (v u : α) (h : d ≠ j) : (t.setIfInBounds d v).getD j u = t.getD j u := by
 simp only [Array.getD_eq_getD_getElem?, Array.getElem?_setIfInBounds, if_neg h]
theorem RgI.put {base m sz : Nat} {vals : Nat → Value} {p2 p3 : Value} {listed : Array Bool} {a : Act} (h : RgI base m sz vals p2 p3 listed a) (i : Nat) (hi : i < m) (hb : 5 ≤ base) (hs : base + m ≤ sz) (v : Value) (hv : v = vals i) : RgI base m sz vals p2 p3 (listed.setIfInBounds i true) (a.put (some (base + i)) v) where
 dfr := h.dfr
 size := by simp [Act.put, h.size]
 t2 := (getD_set_other _ _ _ _ _ (by omega)).trans h.t2
 t3 := (getD_set_other _ _ _ _ _ (by omega)).trans h.t3
 val := fun j hj hl => by
  by_cases e : j = i
  · subst e
    exact (getD_set_same _ _ _ _ (by rw [h.size]; omega)).trans hv
  · refine (getD_set_other _ _ _ _ _ (by omega)).trans (h.val j hj ?_)
    rwa [getD_set_other _ _ _ _ _ (fun x => e x.symm)] at hl
 res := fun hl => (getD_set_other _ _ _ _ _ (by omega)).trans (h.res (by rwa [getD_set_other _ _ _ _ _ (by omega)] at hl))
theorem RgI.putRes {base m sz : Nat} {vals : Nat → Value} {p2 p3 : Value} {listed : Array Bool} {a : Act} (h : RgI base m sz vals p2 p3 listed a) (hb : 5 ≤ base) (hs : base + m ≤ sz) : RgI base m sz vals p2 p3 (listed.setIfInBounds m true) (a.put (some 4) (.bool true)) where
 dfr := h.dfr
 size := by simp [Act.put, h.size]
 t2 := (getD_set_other _ _ _ _ _ (by omega)).trans h.t2
 t3 := (getD_set_other _ _ _ _ _ (by omega)).trans h.t3
 val := fun j hj hl => (getD_set_other _ _ _ _ _ (by omega)).trans (h.val j hj (by rwa [getD_set_other _ _ _ _ _ (by omega)] at hl))
 res := fun _ => getD_set_same _ _ _ _ (by rw [h.size]; omega)
theorem RgI.to {base m sz : Nat} {vals vals' : Nat → Value} {p2 p3 : Value} {listed : Array Bool} {a : Act} (h : RgI base m sz vals p2 p3 listed a) (he : ∀ i, i < m → listed.getD i false = true → vals i = vals' i) : RgI base m sz vals' p2 p3 listed a where
 dfr := h.dfr
 size := h.size
 t2 := h.t2
 t3 := h.t3
 val := fun i hi hl => (h.val i hi hl).trans (he i hi hl)
 res := h.res
theorem RgI.start {base m sz : Nat} {vals : Nat → Value} {p2 p3 : Value} {k : Nat} {a : Act} (h1 : a.defers = []) (h2 : a.tmps.size = sz) (h3 : a.tmps.getD 2 undef = p2) (h4 : a.tmps.getD 3 undef = p3) : RgI base m sz vals p2 p3 (Array.replicate k false) a where
 dfr := h1
 size := h2
 t2 := h3
 t3 := h4
 val := fun i _ hl => by simp [Array.getD] at hl
 res := fun hl => by simp [Array.getD] at hl
theorem unl_rep (k : Nat) : unl (Array.replicate k false).toList ≤ k := by
 simp [unl]
end Go.Proofs.YtepcpgdfbaklfaaGreatDoor
