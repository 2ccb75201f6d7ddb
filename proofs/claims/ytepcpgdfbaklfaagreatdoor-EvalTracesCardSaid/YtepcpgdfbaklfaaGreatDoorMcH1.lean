/- The closure that eval.Run defers. No condition but the blocks' form in memory. -/
import Derived.Test.YtepcpgdfbaklfaaGreatDoorMcF0
import Derived.Test.YtepcpgdfbaklfaaGreatDoorMcTac2
import Derived.RecoverIn
import Derived.RangeFuncLeaves
import Derived.Test.YtepcpgdfbaklfaaGreatDoorMcG0
import Derived.Test.YtepcpgdfbaklfaaGreatDoorMcE0
import Derived.Test.YtepcpgdfbaklfaaGreatDoorTc0C
import Derived.OwnWalkIn
set_option linter.unusedSimpArgs false
set_option linter.unusedVariables false
namespace Go.Proofs.YtepcpgdfbaklfaaGreatDoor
open Go.RowKit Go.Shelf Ev
attribute [local go_sem ↓] Go.wp_at_zero Go.wp_at_succ
theorem assert_wrongE (v : Value) (w : World) : (Instr.typeAssert (.iface 73 v) 20 73 true).run Tryz.prog w = .ok (.tuple #[v, .bool true]) w := by
 simp [Instr.typeAssert, run_underlying Tryz.underlying73, Result.andThen, go_sem]
theorem runD_idle (n : Nat) (pt pe : Addr) (w : World) :
 CallsDIn Fence.wide n Tryz.prog 30 #[.pointer (some pt), .pointer (some pe)] .returning w fun e u' w' => e = .returned (.tuple #[]) ∧ u' = .returning ∧ w' = w := by
 refine callsDIn_of_wpSIn Tryz.func30 rfl trivial fun c₀ cs hu => ?_
 simp only [Tryz.ntmps30, List.size_toArray, List.length_cons, List.length_nil, Nat.reduceAdd, Nat.reduceSub, Array.replicate_succ, Array.replicate_zero, List.push_toArray, List.append_toArray, List.nil_append, List.cons_append]
 apply wpSIn_seq
 apply wpSIn_region
 simp [wpOpsSIn, go_sem, recoverD, hu, Exit.thenS]
 refine wpSIn_of_wpIn rfl (wpIn_wide.2 ?_)
 generalize hQ : (fun e a' w' => bodyPostS _ _ _ _ _ e a' _ w') = Q
 have HQ := Lib.hid hQ
 clear hQ
 go_wp2_with fail
 rw [← HQ.out]
 refine ⟨rfl, .returning, ?_, .tuple #[], ?_, rfl, rfl, rfl⟩
 · cases c₀; simp_all
 · simp [results, Tryz.results30]
def CaughtR (be ba : Nat) (n : Nat) (p : Int) (w w' : World) : Prop :=
 w'.heap[be]? = some (.cells #[.int .i64 (n : Nat)] 37 (0, 0)) ∧ w'.heap[ba]? = some (.cells #[.int .i64 p] 3 (0, 0)) ∧ Off (fun b => b < w.heap.size ∧ b ≠ be ∧ b ≠ ba) w w'
set_option maxRecDepth 100000 in
set_option maxHeartbeats 40000000 in
theorem runD_catch (k be ba : Nat) (hne : be ≠ ba) (ve va : Value) (n : Nat) (p : Int) (w : World) (he : w.heap[be]? = some (.cells #[ve] 37 (0, 0))) (ha : w.heap[ba]? = some (.cells #[va] 3 (0, 0))) :
 CallsDIn Fence.wide k Tryz.prog 30 #[.pointer (some ⟨be, 0, none⟩), .pointer (some ⟨ba, 0, none⟩)] (.panicking (wrongP n p)) w fun e u' w' =>
  e = .returned (.tuple #[]) ∧ u' = .panicking [{ v := .iface 73 (.agg #[.int .i64 (n : Nat), .int .i64 p]), recovered := true }] ∧ CaughtR be ba n p w w' := by
 unfold wrongP
 have hnil := fun w => run_eql_iface_nil (P := Tryz.prog) w (tx := 73) (.agg #[.int .i64 (n : Nat), .int .i64 p]) Tryz.underlying20
 have hass := assert_wrongE (.agg #[.int .i64 (n : Nat), .int .i64 p])
 have c0 : w.cell? ⟨be, 0, none⟩ = some ve := by rw [cell_of_heap' he]; rfl
 have d0 : w.cell? ⟨ba, 0, none⟩ = some va := by rw [cell_of_heap' ha]; rfl
 have fz := frozen_cells he
 have fe := frozen_cells ha
 have hbt := lt_of_block he
 have hbe := lt_of_block ha
 have HT := Lib.hid he
 have HE := Lib.hid ha
 clear he ha
 refine callsDIn_of_wpSIn Tryz.func30 rfl trivial fun c₀ cs hu => ?_
 simp only [Tryz.ntmps30, List.size_toArray, List.length_cons, List.length_nil, Nat.reduceAdd, Nat.reduceSub, Array.replicate_succ, Array.replicate_zero, List.push_toArray, List.append_toArray, List.nil_append, List.cons_append]
 apply wpSIn_seq
 apply wpSIn_region
 simp [wpOpsSIn, go_sem, recoverD, hu, Exit.thenS]
 refine wpSIn_of_wpIn rfl (wpIn_wide.2 ?_)
 generalize hQ : (fun e a' w' => bodyPostS _ _ _ _ _ e a' _ w') = Q
 have HQ := Lib.hid hQ
 have HU := Lib.hid hu
 clear hQ hu
 go_wp2_with fail
 have n1 : ¬ be = w.heap.size := by omega
 have n2 : ¬ ba = w.heap.size := by omega
 have n5 : ¬ ba = be := fun e => hne e.symm
 go_region
 all_goals
  show Q Exit.normal _ _
  rw [← HQ.out]
  refine ⟨rfl, _, rfl, .tuple #[], by simp [results, Tryz.results30], rfl, rfl, ?_, ?_, ⟨rfl, rfl, rfl, ?_, fun b hb => ?_⟩⟩
  · show (World.alloc _ _).heap[be]? = _
    rw [Below.heap_alloc _ _ _ (by simp [World.setCell]; omega), Below.heap_setCell _ _ _ _ hne]
    exact set_cells (j := 0) HT.out _
  · show (World.alloc _ _).heap[ba]? = _
    rw [Below.heap_alloc _ _ _ (by simp [World.setCell]; omega)]
    exact set_cells (j := 0) ((Below.heap_setCell _ _ _ _ n5).trans HE.out) _
  · show w.heap.size ≤ (World.alloc _ _).heap.size
    simp [World.setCell]
  · obtain ⟨hb, h1, h2⟩ := hb
    show (World.alloc _ _).heap[b]? = _
    rw [Below.heap_alloc _ _ _ (by simp [World.setCell]; omega), Below.heap_setCell _ _ _ _ h2, Below.heap_setCell _ _ _ _ h1]
theorem wpListIn_append_lies {F : Fence} {n : Nat} {P : Program} (w : World) {ops : Array Oper} {rest : List Oper} {o : Oper} {a : Act} {Q : Exit → Act → World → Prop}
 (hg : o.guard = none) (s x : Operand) (t : TypeId) (hop : o.op = Op.call { callee := Callee.builtin Builtin.append, args := #[s, x], argTypes := #[t, t] })
 (base : Nat) (e : TypeId) (i : TypeInfo) (z : Value) (size bytes : Nat) (h1 : P.underlying t = some (.slice e)) (h2 : P.info? e = some i) (h3 : i.zero = some z) (h4 : i.size = size) (h5 : i.bytes = bytes) (h6 : z.cells.size = size) (h7 : 0 < size)
 (v : Value) (k : Nat) (xs : List Value) (hs : a.eval s = v) (hown : w.ownsRow base e size v k xs) (ad : Addr) (m c : Nat) (news : List Value) (hx : a.eval x = .slice (some ad) m c) (hn : news.length = m * size)
 (hc : ∀ j u, news[j]? = some u → w.cell? (ad.add j) = some u) (h1c : ∀ u ∈ news, u.oneCell' = true) (hm : 0 < m) (b1 : k + m ≤ maxLen) (b2 : (k + m) * bytes ≤ 140737488355328) (b3 : base ≤ w.heap.size)
 (hK : ∀ g cap w', w'.ownsRow base e size (.slice (some ⟨g, 0, none⟩) (k + m) cap) (k + m) (xs ++ news) → w.grownBy w' v.ownBlock → (v.ownBlock = some g ∨ g = w.heap.size) → g < w'.heap.size → wpListIn F n P ops Q rest (a.put o.dst (.slice (some ⟨g, 0, none⟩) (k + m) cap)) w') :
 wpListIn F n P ops Q (o :: rest) a w := by
 refine wpListIn_plain hg fun K hK' => ?_
 obtain ⟨g, cap, w', hrun, r1, r2, r3, r4⟩ := run_append_lies (P := P) w t o.type base e i z size bytes h1 h2 h3 h4 h5 h6 h7 v k xs hown ad m c news hn hc h1c hm b1 b2 b3 _ rfl
 unfold Oper.wpIn
 refine ⟨?_, ?_⟩
 · simp [Oper.about, hop, resolve, Target.leads, Sem.run_pure]
 · rw [Oper.semAt_plain F _ _ (by rw [hop]; intro c hc'; cases hc')]
   simp [execOp, hop, resolve, invoke, builtin, hs, hx, hrun, Result.andThen]
   exact hK' _ _ (hK g cap w' r1 r2 r3 r4)
def pcL (p : Pc) (a1 : Option Addr) (c1 : Nat) (a2 : Option Addr) (c2 : Nat) : List Value := [.int .i64 p.pos, .bool p.hole, .string p.text, .int .u8 (p.val.h.kind : Nat), .bool p.val.h.b, .int .i64 p.val.h.n, .int .u64 (p.val.h.bits : Nat), .string p.val.h.text, .slice a1 p.val.h.keys.length c1, .slice a2 p.val.items.len c2]
def RowPC (ok : Nat → Prop) (w : World) : List Pc → List Value → Prop
 | [], cs => cs = []
 | p :: r, cs => ∃ a1 c1 a2 c2 cs', cs = pcL p a1 c1 a2 c2 ++ cs' ∧ ValS ok w p.val a1 c1 a2 c2 ∧ RowPC ok w r cs'
theorem RowPC.kept {ok : Nat → Prop} {w w' : World} (hk : Kept ok w w') : ∀ (t : List Pc) (cs : List Value), RowPC ok w t cs → RowPC ok w' t cs := by
 intro t
 induction t with
 | nil => intro cs h; exact h
 | cons p r ih =>
   rintro cs ⟨a1, c1, a2, c2, cs', rfl, h1, h2⟩
   exact ⟨a1, c1, a2, c2, cs', rfl, h1.kept hk, ih _ h2⟩
theorem RowPC.mono {ok ok' : Nat → Prop} {w : World} (hk : ∀ b, ok b → ok' b) : ∀ (t : List Pc) (cs : List Value), RowPC ok w t cs → RowPC ok' w t cs := by
 intro t
 induction t with
 | nil => intro cs h; exact h
 | cons p r ih =>
   rintro cs ⟨a1, c1, a2, c2, cs', rfl, h1, h2⟩
   exact ⟨a1, c1, a2, c2, cs', rfl, h1.mono hk, ih _ h2⟩
theorem RowPC.snoc {ok : Nat → Prop} {w : World} {p : Pc} {a1 a2 : Option Addr} {c1 c2 : Nat} (hp : ValS ok w p.val a1 c1 a2 c2) : ∀ (t : List Pc) (cs : List Value), RowPC ok w t cs → RowPC ok w (t ++ [p]) (cs ++ pcL p a1 c1 a2 c2) := by
 intro t
 induction t with
 | nil =>
   intro cs h
   obtain rfl : cs = [] := h
   exact ⟨a1, c1, a2, c2, [], by simp, hp, rfl⟩
 | cons q r ih =>
   rintro cs ⟨b1, d1, b2, d2, cs', rfl, h1, h2⟩
   exact ⟨b1, d1, b2, d2, cs' ++ pcL p a1 c1 a2 c2, by simp, h1, ih _ h2⟩
theorem RowPC.len {ok : Nat → Prop} {w : World} : ∀ (l : List Pc) (cs : List Value), RowPC ok w l cs → cs.length = l.length * 10 := by
 intro l
 induction l with
 | nil => intro cs h; obtain rfl : cs = [] := h; rfl
 | cons p r ih =>
   rintro cs ⟨a1, c1, a2, c2, cs', rfl, h1, h2⟩
   have := ih _ h2
   simp only [pcL, List.length_append, List.length_cons, List.length_nil]; omega
theorem RowPC.row {ok : Nat → Prop} {w : World} : ∀ (l : List Pc) (cs : List Value) (b o : Nat), RowPC ok w l cs → (∀ j u, cs[j]? = some u → w.cell? ⟨b, o + j, none⟩ = some u) → RowP ok w l b o := by
 intro l
 induction l with
 | nil => intro cs b o _ _; exact trivial
 | cons p r ih =>
   rintro cs b o ⟨a1, c1, a2, c2, cs', rfl, ⟨h1, a', c', he, k1, k2, k3⟩, h4⟩ hc
   cases he
   refine ⟨⟨hc 0 _ rfl, hc 1 _ rfl, hc 2 _ rfl⟩, ⟨⟨hc 3 _ rfl, hc 4 _ rfl, hc 5 _ rfl, hc 6 _ rfl, hc 7 _ rfl, _, hc 8 _ rfl, h1⟩, ⟨a2, c2, hc 9 _ rfl, k1, k2, k3⟩, trivial⟩, ih cs' b (o + 10) h4 (fun j u hj => ?_)⟩
   have := hc (10 + j) u (by rw [List.getElem?_append_right (by simp [pcL])]; simpa [pcL] using hj)
   rwa [show o + (10 + j) = o + 10 + j by omega] at this
def Sn (B : Nat) (S : Nat → Prop) (v : Value) (W : World) (b : Nat) : Prop := S b ∧ B ≤ b ∧ v.ownBlock ≠ some b ∧ UnF W b
structure PcI (B Bl : Nat) (S : Nat → Prop) (pre : List It) (W : World) : Prop where
 cell : S Bl
 lt : ∀ b, S b → b < W.heap.size
 big : B ≤ W.heap.size
 row : ∃ v cs, W.heap[Bl]? = some (.cells #[v] 36 (0, 0)) ∧ W.ownsRow B 44 10 v pre.length cs ∧ (∀ g, v.ownBlock = some g → S g) ∧ RowPC (Sn B S v W) W (pre.map It.pc) cs
theorem PcI.lies (B Bl : Nat) : Lies (PcI B Bl) := by
 intro S pre A C h ho
 obtain ⟨h1, h2, hbg, v, cs, h3, h4, h5, h6⟩ := h
 exact ⟨h1, fun b hb => Nat.lt_of_lt_of_le (h2 b hb) ho.size, Nat.le_trans hbg ho.size, v, cs, (ho.block _ h1).trans h3, own_kept h4 (fun g hg => ho.block g (h5 g hg)), h5,
  RowPC.mono (fun b hb => ⟨hb.1, hb.2.1, hb.2.2.1, hb.2.2.2.same (ho.block b hb.1)⟩) _ _ (RowPC.kept (fun b hb => ho.block b hb.1) _ _ h6)⟩
theorem PcI.start {B Bl : Nat} {W : World} (hB : B ≤ W.heap.size) (h : W.heap[Bl]? = some (.cells #[.slice none 0 0] 36 (0, 0))) : PcI B Bl (· = Bl) [] W :=
 ⟨rfl, fun b hb => by rw [show b = Bl from hb]; exact lt_of_block h, hB, .slice none 0 0, [], h, World.ownsRow_nil _ _ _ _, (fun g hg => by cases hg), rfl⟩
theorem infoPiece : (Tryz.prog.info? 44).map (fun i => (i.zero, i.size, i.bytes)) = some (some (.agg #[.int .i64 0, .bool false, .string ⟨#[]⟩, .int .u8 0, .bool false, .int .i64 0, .int .u64 0, .string ⟨#[]⟩, .slice none 0 0, .slice none 0 0]), 10, 120) := by kernel_rfl
theorem PcI.pcs {B Bl : Nat} {S : Nat → Prop} {pre : List It} {W : World} (h : PcI B Bl S pre W) : ∃ v, W.heap[Bl]? = some (.cells #[v] 36 (0, 0)) ∧ Pcs (fun b => S b ∧ Nu B W b) W v (pre.map It.pc) := by
 obtain ⟨h1, h2, hbg, v, cs, h3, h4, h5, h6⟩ := h
 refine ⟨v, h3, ?_⟩
 have hu : ∀ g, v.ownBlock = some g → UnF W g := by
  intro g hg
  rcases h4.2 with ⟨rfl, -⟩ | ⟨g', cap, cur, rfl, -, hgg, -⟩
  · cases hg
  · obtain rfl : g' = g := Option.some.inj hg
    exact frozen_cells hgg
 have hm : ∀ b, Sn B S v W b → (S b ∧ Nu B W b) := fun b hb => ⟨hb.1, hb.2.1, h2 b hb.1, hb.2.2.2⟩
 obtain ⟨a, c, rfl, q1, q2, q3⟩ := own_elems h4
 refine ⟨a, c, by rw [List.length_map], by rw [List.length_map]; exact q1, q2, fun hn => ?_⟩
 have hl := RowPC.len _ _ h6
 obtain ⟨g, rfl, hg1, hg2, hc⟩ := q3 (by
  rintro rfl
  rw [List.length_nil] at hl
  exact hn (List.length_eq_zero_iff.1 (by omega)))
 exact ⟨g, 0, rfl, ⟨h5 g rfl, hg1, hg2, hu g rfl⟩, RowPC.row _ cs g 0 (RowPC.mono hm _ _ h6) (fun j u hj => by rw [Nat.zero_add]; exact hc j u hj)⟩
theorem PcI.more {B Bl : Nat} {S : Nat → Prop} {pre : List It} {x : It} {A W W1 W2 : World} (h : PcI B Bl S pre A) (hT : ∀ b, x.T b → ¬ S b ∧ b < A.heap.size) (hp : prP B x A) (hBl : Bl < B) (hA : Below A.heap.size A W)
 (v : Value) (cs : List Value) (hv : A.heap[Bl]? = some (.cells #[v] 36 (0, 0))) (hcs : A.ownsRow B 44 10 v pre.length cs) (hrow : RowPC (Sn B S v A) A (pre.map It.pc) cs) (hS : ∀ g, v.ownBlock = some g → S g)
 (g cap : Nat) (ho : W1.ownsRow B 44 10 (.slice (some ⟨g, 0, none⟩) (pre.length + 1) cap) (pre.length + 1) (cs ++ pcL x.pc x.a1 x.c1 x.a2 x.c2)) (hg : W.grownBy W1 v.ownBlock) (hat : v.ownBlock = some g ∨ g = W.heap.size) (hgl : g < W1.heap.size)
 (h2 : W2 = W1.setCell ⟨Bl, 0, none⟩ (.slice (some ⟨g, 0, none⟩) (pre.length + 1) cap)) :
 ∃ S', PcI B Bl S' (pre ++ [x]) W2 ∧ Turn S x.T S' A W2 := by
 have hB := h.big
 have hz2 : W2.heap.size = W1.heap.size := by rw [h2]; simp [World.setCell]
 have hsz : A.heap.size ≤ W1.heap.size := Nat.le_trans hA.size hg.size
 have hBA := lt_of_block hv
 have hgne : v.ownBlock ≠ some Bl := fun e => by have := (own_new hcs _ e).1; omega
 have hb1 : ∀ b, b < A.heap.size → v.ownBlock ≠ some b → W1.heap[b]? = A.heap[b]? := fun b hb hn => (hg.block b (Nat.lt_of_lt_of_le hb hA.size) (fun e => hn e.symm)).trans (hA.block b hb)
 have hb2 : ∀ b, b < A.heap.size → v.ownBlock ≠ some b → b ≠ Bl → W2.heap[b]? = A.heap[b]? := fun b hb hn hne => by rw [h2, Below.heap_setCell _ _ _ _ hne]; exact hb1 b hb hn
 have hvBl : W2.heap[Bl]? = some (.cells #[.slice (some ⟨g, 0, none⟩) (pre.length + 1) cap] 36 (0, 0)) := by
  rw [h2]; exact set_cells (j := 0) ((hb1 Bl hBA hgne).trans hv) _
 have hgBl : g ≠ Bl := by
  rintro rfl
  rcases hat with e | e
  · exact hgne e
  · have := hA.size; omega
 have hS' : ∀ b, (S b ∨ x.T b) → b < A.heap.size := fun b hb => by rcases hb with hb | hb; exact h.lt b hb; exact (hT b hb).2
 refine ⟨fun b => b < W2.heap.size ∧ (S b ∨ x.T b ∨ A.heap.size ≤ b), ⟨⟨by omega, .inl h.cell⟩, fun b hb => hb.1, by omega, .slice (some ⟨g, 0, none⟩) (pre.length + 1) cap, cs ++ pcL x.pc x.a1 x.c1 x.a2 x.c2, hvBl, ?_, ?_, ?_⟩, ⟨⟨?_, ?_, ?_, by omega, ?_⟩, fun b hb => hb.2, fun b hb => hb.1⟩⟩
 · rw [List.length_append, List.length_singleton]
   refine own_kept ho (fun g' hg' => ?_)
   obtain rfl : g = g' := Option.some.inj hg'
   rw [h2, Below.heap_setCell _ _ _ _ hgBl]
 · intro g' hg'
   obtain rfl : g = g' := Option.some.inj hg'
   refine ⟨by omega, ?_⟩
   rcases hat with e | e
   · exact .inl (hS _ e)
   · exact .inr (.inr (by have := hA.size; omega))
 · rw [List.map_append, List.map_singleton]
   have hsn : ∀ b, Sn B S v A b → b < A.heap.size ∧ b ≠ Bl := fun b hb => ⟨h.lt b hb.1, by have := hb.2.1; omega⟩
   have hgt : ∀ b, b < A.heap.size → v.ownBlock ≠ some b → (.slice (some ⟨g, 0, none⟩) (pre.length + 1) cap : Value).ownBlock ≠ some b := fun b hb hn e => by
    obtain rfl : g = b := Option.some.inj e
    rcases hat with e | e
    · exact hn e
    · have := hA.size; omega
   have hTn : ∀ b, x.T b → v.ownBlock ≠ some b := fun b hb e => (hT b hb).1 (hS _ e)
   have hTB : ∀ b, x.T b → b ≠ Bl := fun b hb e => (hT b hb).1 (by rw [e]; exact h.cell)
   refine RowPC.snoc ?_ _ _ (RowPC.mono (fun b hb => ?_) _ _ (RowPC.kept (fun b hb => hb2 b (hsn b hb).1 hb.2.2.1 (hsn b hb).2) _ _ hrow))
   · refine (hp.1.kept (fun b hb => hb2 b (hT b hb).2 (hTn b hb) (hTB b hb))).mono (fun b hb => ⟨⟨by have := (hT b hb).2; omega, .inr (.inl hb)⟩, hp.2.2.2 b hb, hgt b (hT b hb).2 (hTn b hb), (hp.2.1 b hb).same (hb2 b (hT b hb).2 (hTn b hb) (hTB b hb))⟩)
   · exact ⟨⟨by have := (hsn b hb).1; omega, .inl hb.1⟩, hb.2.1, hgt b (hsn b hb).1 hb.2.2.1, hb.2.2.2.same (hb2 b (hsn b hb).1 hb.2.2.1 (hsn b hb).2)⟩
 · rw [h2]; exact hg.os.trans hA.os
 · rw [h2]; exact hg.tape.trans hA.tape
 · rw [h2]; exact hg.output.trans hA.output
 · intro b hb
   exact hb2 b hb.1 (fun e => hb.2 (hS _ e)) (fun e => hb.2 (by rw [e]; exact h.cell))
def pcA (x : It) : Array Value := #[.int .i64 x.pc.pos, .bool x.pc.hole, .string x.pc.text, .int .u8 (x.pc.val.h.kind : Nat), .bool x.pc.val.h.b, .int .i64 x.pc.val.h.n, .int .u64 (x.pc.val.h.bits : Nat), .string x.pc.val.h.text, .slice x.a1 x.pc.val.h.keys.length x.c1, .slice x.a2 x.pc.val.items.len x.c2]
def pcO (x : It) : Obj := .cells (pcA x) 44 (0, 0)
structure ItCs (p : Nat) (x : It) (W : World) : Prop where
 q0 : W.cell? ⟨p, 0, none⟩ = some (.int .i64 x.pc.pos)
 q1 : W.cell? ⟨p, 1, none⟩ = some (.bool x.pc.hole)
 q2 : W.cell? ⟨p, 2, none⟩ = some (.string x.pc.text)
 q3 : W.cell? ⟨p, 3, none⟩ = some (.int .u8 (x.pc.val.h.kind : Nat))
 q4 : W.cell? ⟨p, 4, none⟩ = some (.bool x.pc.val.h.b)
 q5 : W.cell? ⟨p, 5, none⟩ = some (.int .i64 x.pc.val.h.n)
 q6 : W.cell? ⟨p, 6, none⟩ = some (.int .u64 (x.pc.val.h.bits : Nat))
 q7 : W.cell? ⟨p, 7, none⟩ = some (.string x.pc.val.h.text)
 q8 : W.cell? ⟨p, 8, none⟩ = some (.slice x.a1 x.pc.val.h.keys.length x.c1)
 q9 : W.cell? ⟨p, 9, none⟩ = some (.slice x.a2 x.pc.val.items.len x.c2)
theorem pcOCs {p : Nat} {x : It} {W : World} (h : W.heap[p]? = some (pcO x)) : ItCs p x W :=
 ⟨by rw [cell_of_heap' h]; rfl, by rw [cell_of_heap' h]; rfl, by rw [cell_of_heap' h]; rfl, by rw [cell_of_heap' h]; rfl, by rw [cell_of_heap' h]; rfl, by rw [cell_of_heap' h]; rfl, by rw [cell_of_heap' h]; rfl, by rw [cell_of_heap' h]; rfl, by rw [cell_of_heap' h]; rfl, by rw [cell_of_heap' h]; rfl⟩
open Go Go.RowKit
variable {P : Program} {b : Frame} {n : Nat} {Q : Exit → Act → World → Prop} {a : Act} {w : World}
theorem WpAt.rangeV {α : Type} {g : Operand} {ps : Array Tmp} {assign body : Code} {gf : Nat} {lb : Array Value} {fn : Func} (hb : b.roundOf = none) (hfn : P.funcs[b.fn]? = some fn) (hg : a.eval g = .func (.func gf) #[] lb) (eg : ∀ args w, (callFunc gf args).run P w = .ok (.enter gf args) w)
 {encs : α → Array Value} {T : α → Nat → Prop} {Pr : α → World → Prop} {Good : List α → Prop} {Bad : List PanicEntry → List α → Prop} {Old : Nat → Prop}
 (hit : Hands P gf lb encs T Pr Good Bad Old w)
 (hPr : ∀ x A B, Pr x A → Off (T x) A B → Pr x B) (hps : ∀ x, (encs x).size = ps.size)
 (I : (Nat → Prop) → List α → World → Prop) (S0 : Nat → Prop) (hS0 : ∀ b, S0 b → b < w.heap.size) (hOld : ∀ b, Old b → b < w.heap.size ∧ ¬ S0 b) (hI : Lies I) (hIlt : ∀ S pre W, I S pre W → ∀ b, S b → b < W.heap.size) (h0 : I S0 [] w) (po : α → Obj) (a₁ : α → Nat → Act)
 (hassign : ∀ (l : Nat) (x : α) (W : World) (K : Act → World → Prop), K (a₁ x W.heap.size) (W.alloc (po x)) →
   assign.wpIn (Fence.wide.inRound l) 4 P (Exit.then K (fun _ _ _ => False)) { tmps := (ps.zip (encs x)).foldl (fun t (p, v) => t.setIfInBounds p v) a.tmps, defers := [] } W)
 (hbody : ∀ (l : Nat) (S : Nat → Prop) (pre : List α) (x : α) (p : Nat) (W : World), I S pre W → pre.length < 1000000 → Coming T Pr S x W → W.heap[p]? = some (po x) → ¬ S p → ¬ T x p → body.wpIn (Fence.wide.inRound l) 4 P (bodyQ T I S pre x W) (a₁ x p) W)
 (hdone : ∀ (D : Nat) (S : Nat → Prop) (xs : List α) (W : World), w.heap.size ≤ D → Good xs → I S xs W → ¬ S D → Off (fun b => b < w.heap.size ∧ ¬ S0 b) w W → W.heap[D]? = some (.deferred (some [])) → Q .normal { a with defers := { target := .collected D, args := #[] } :: a.defers } W)
 (hpan : ∀ (D : Nat) (S : Nat → Prop) (ch : List PanicEntry) (xs : List α) (W : World), w.heap.size ≤ D → Bad ch xs → I S xs W → ¬ S D → Off (fun b => b < w.heap.size ∧ ¬ S0 b) w W → W.heap[D]? = some (.deferred (some [])) → Q (.panic ch) { a with defers := { target := .collected D, args := #[] } :: a.defers } W) :
 WpAt b P (.rangeFunc g ps assign body) Q a w := by
 refine WpAt.rangeFunc (n := 5) hb hg eg ?_
 obtain ⟨rec, hrec⟩ : ∃ rec : LoopState → Loop, rec = fun st => recOf b a w ps assign body st := ⟨_, rfl⟩
 obtain ⟨W1, hW1⟩ : ∃ W1, (w.alloc (.deferred (some []))).alloc (.loop (rec .ready)) = W1 := ⟨_, rfl⟩
 have hL1 : W1.heap[w.heap.size + 1]? = some (.loop (rec .ready)) := by
  rw [← hW1]; have := World.alloc_heap_new (w.alloc (.deferred (some []))) (.loop (rec .ready)); rwa [World.size_alloc] at this
 have hK1 : W1.heap[w.heap.size]? = some (.deferred (some [])) := by
  rw [← hW1]; exact (Below.heap_alloc _ _ _ (by simp)).trans (World.alloc_heap_new w _)
 have hb1 : Below w.heap.size w W1 := by
  rw [← hW1]; exact ((Below.refl _ w).alloc (Nat.le_refl _) _).alloc (by simp) _
 have hz1 : W1.heap.size = w.heap.size + 2 := by rw [← hW1]; simp
 have hI1 : I S0 [] W1 := hI _ _ _ _ h0 ((Off.of_below hb1).mono (fun b h => hS0 b h))
 have e1 : (w.alloc (.deferred (some []))).alloc (.loop (recOf b a w ps assign body .ready)) = W1 := by rw [← hW1, hrec]
 rw [e1]
 refine (hit (w.heap.size + 1)
  (fun S pre W => ∃ S1, S = (fun b => S1 b ∨ b = w.heap.size ∨ b = w.heap.size + 1) ∧ ¬ S1 w.heap.size ∧ ¬ S1 (w.heap.size + 1) ∧ I S1 pre W ∧ W.heap[w.heap.size + 1]? = some (.loop (rec .ready)) ∧ W.heap[w.heap.size]? = some (.deferred (some [])))
  (fun b => S0 b ∨ b = w.heap.size ∨ b = w.heap.size + 1) W1 hb1 ?_ (fun b ho => by rintro (h | rfl | rfl); exact (hOld b ho).2 h; have := (hOld _ ho).1; omega; have := (hOld _ ho).1; omega) ?_ ?_ ⟨S0, rfl, fun h => by have := hS0 _ h; omega, fun h => by have := hS0 _ h; omega, hI1, hL1, hK1⟩).mono ?_
 · rintro b (h | rfl | rfl)
   · have := hS0 _ h; omega
   · omega
   · omega
 · rintro S pre A B ⟨S1, rfl, n1, n2, hi, hl, hk⟩ ho
   exact ⟨S1, rfl, n1, n2, hI _ _ _ _ hi (ho.mono fun b h => .inl h), (ho.block _ (.inr (.inr rfl))).trans hl, (ho.block _ (.inr (.inl rfl))).trans hk⟩
 · rintro S pre x V ⟨S1, rfl, n1, n2, hi, hl0, hk0⟩ hlen hx0
   have hy := run_yield (P := P) (args := encs x) hl0 (by rw [hrec]; exact hps x)
   rw [hrec] at hy
   have hlv : w.heap.size + 1 < V.heap.size := (Array.getElem?_eq_some_iff.1 hl0).1
   obtain ⟨W, hW⟩ : ∃ W, V.alloc (po x) = W := ⟨_, rfl⟩
   have hzW : W.heap.size = V.heap.size + 1 := by rw [← hW]; simp
   have hbV : Below V.heap.size V W := by rw [← hW]; exact (Below.refl _ V).alloc (Nat.le_refl _) _
   have hoV : ∀ (S : Nat → Prop), (∀ b, S b → b < V.heap.size) → Off S V W := fun S h => (Off.of_below hbV).mono h
   have hl := (hbV.block _ hlv).trans hl0
   have hk := (hbV.block w.heap.size (by omega)).trans hk0
   have hpx : W.heap[V.heap.size]? = some (po x) := by rw [← hW]; exact World.alloc_heap_new V _
   have hx : Coming T Pr (fun b => S1 b ∨ b = w.heap.size ∨ b = w.heap.size + 1) x W := ⟨fun b h => ⟨(hx0.new b h).1, by have := (hx0.new b h).2; omega⟩, hPr x _ _ hx0.is (hoV _ fun b h => (hx0.new b h).2)⟩
   have hpT : ¬ T x V.heap.size := fun h => by have := (hx0.new _ h).2; omega
   have hSV : ∀ b, S1 b → b < V.heap.size := hIlt _ _ _ hi
   have hpS : ¬ S1 V.heap.size := fun h => by have := hSV _ h; omega
   have hi := hI _ _ _ _ hi (hoV S1 hSV)
   have hlt : w.heap.size + 1 < W.heap.size := (Array.getElem?_eq_some_iff.1 hl).1
   have hT1 : ¬ T x (w.heap.size + 1) := fun h => (hx.new _ h).1 (.inr (.inr rfl))
   have hT0 : ¬ T x w.heap.size := fun h => (hx.new _ h).1 (.inr (.inl rfl))
   refine ⟨b.fn, _, assign, body, hy, round_at hfn (hassign _ x V _ ?_)⟩
   rw [hW]
   refine ⟨_, run_beginRound hl (by rw [hrec]), ?_⟩
   have ho1 : ∀ (S : Nat → Prop), ¬ S (w.heap.size + 1) → Off S W (W.putObj (w.heap.size + 1) (.loop { rec .ready with state := .busy })) := fun S h => Off.putObj _ h
   have hl2 : (W.putObj (w.heap.size + 1) (.loop { rec .ready with state := .busy })).heap[w.heap.size + 1]? = some (.loop { rec .ready with state := .busy }) := World.putObj_heap_same hlt
   have hk2 : (W.putObj (w.heap.size + 1) (.loop { rec .ready with state := .busy })).heap[w.heap.size]? = some (.deferred (some [])) := (World.putObj_heap_other (by omega)).trans hk
   have hz2 : (W.putObj (w.heap.size + 1) (.loop { rec .ready with state := .busy })).heap.size = W.heap.size := by simp [World.putObj]
   have hx2 : Coming T Pr S1 x (W.putObj (w.heap.size + 1) (.loop { rec .ready with state := .busy })) :=
    ⟨fun b h => ⟨fun h1 => (hx.new b h).1 (.inl h1), by rw [hz2]; exact (hx.new b h).2⟩, hPr x _ _ hx.is (ho1 _ hT1)⟩
   refine wpIn_mono (hbody _ S1 pre x V.heap.size _ (hI _ _ _ _ hi (ho1 _ n2)) hlen hx2 ((World.putObj_heap_other (by omega)).trans hpx) hpS hpT) ?_
   rintro e a3 W3 hp
   cases e with
   | normal =>
     obtain ⟨S2, hi3, ht⟩ := hp
     have hl3 := (ht.off.block (w.heap.size + 1) ⟨by rw [hz2]; exact hlt, n2⟩).trans hl2
     have hk3 := (ht.off.block w.heap.size ⟨by rw [hz2]; omega, n1⟩).trans hk2
     have m2 : ¬ S2 (w.heap.size + 1) := fun h => by
      rcases ht.grow _ h with h | h | h
      · exact n2 h
      · exact hT1 h
      · rw [hz2] at h; omega
     have m1 : ¬ S2 w.heap.size := fun h => by
      rcases ht.grow _ h with h | h | h
      · exact n1 h
      · exact hT0 h
      · rw [hz2] at h; omega
     have hlt3 : w.heap.size + 1 < W3.heap.size := (Array.getElem?_eq_some_iff.1 hl3).1
     have := run_endRound (P := P) none hl3
     refine ⟨_, _, this, rfl, (fun b => S2 b ∨ b = w.heap.size ∨ b = w.heap.size + 1), ⟨S2, rfl, m1, m2, hI _ _ _ _ hi3 (Off.putObj _ m2), ?_, (World.putObj_heap_other (by omega)).trans hk3⟩, ⟨?_, ?_, ?_⟩⟩
     · rw [World.putObj_heap_same hlt3, hrec]
       rfl
     · have q1 : Off (fun b => b < W.heap.size ∧ ¬ (S1 b ∨ b = w.heap.size ∨ b = w.heap.size + 1)) W (W.putObj (w.heap.size + 1) (.loop { rec .ready with state := .busy })) := ho1 _ (fun h => h.2 (.inr (.inr rfl)))
       have q2 : Off (fun b => b < W.heap.size ∧ ¬ (S1 b ∨ b = w.heap.size ∨ b = w.heap.size + 1)) (W.putObj (w.heap.size + 1) (.loop { rec .ready with state := .busy })) W3 := ht.off.mono fun b h => ⟨by rw [hz2]; exact h.1, fun h1 => h.2 (.inl h1)⟩
       have q0 : Off (fun b => b < V.heap.size ∧ ¬ (S1 b ∨ b = w.heap.size ∨ b = w.heap.size + 1)) V W := hoV _ fun b h => h.1
       exact q0.trans (((q1.trans q2).trans (Off.putObj _ (fun h => h.2 (.inr (.inr rfl))))).mono fun b h => ⟨by omega, h.2⟩)
     · rintro b (h | h | h)
       · rcases ht.grow _ h with h | h | h
         · exact .inl (.inl h)
         · exact .inr (.inl h)
         · rw [hz2] at h; exact .inr (.inr (by omega))
       · exact .inl (.inr (.inl h))
       · exact .inl (.inr (.inr h))
     · have hzz : (W3.putObj (w.heap.size + 1) (.loop { rec .ready with state := if (none : Option Code).isNone = true then LoopState.ready else LoopState.done, pending := none })).heap.size = W3.heap.size := by simp [World.putObj]
       rintro b (h | rfl | rfl)
       · have := ht.lt b h; simp [World.putObj]; exact this
       · simp [World.putObj]; omega
       · simp [World.putObj]; exact hlt3
   | panic ch => exact hp.elim
   | exit id => exact hp.elim
   | goto t => exact hp.elim
   | ret => exact hp.elim
   | outgrown => exact hp.elim
 · rintro e W2 ⟨S', xs, ⟨S1, rfl, n1, n2, hi, hl, hk⟩, ho, hend⟩
   have hO : Off (fun b => b < w.heap.size ∧ ¬ S0 b) w W2 := ((Off.of_below hb1).mono fun b h => h.1).trans (ho.mono fun b h => ⟨by omega, by rintro (h1 | h1 | h1); exact h.2 h1; omega; omega⟩)
   rcases hend with ⟨v, rfl, hg1⟩ | ⟨ch, rfl, hb2⟩
   · exact ⟨_, by have := run_endLoop (P := P) hl (by rw [hrec]; simp); rw [hrec] at this; exact this, hdone _ S1 xs _ (Nat.le_refl _) hg1 (hI _ _ _ _ hi (Off.putObj _ n2)) n1 (hO.trans (Off.putObj _ (by intro h; have := h.1; omega))) ((World.putObj_heap_other (by omega)).trans hk)⟩
   · exact hpan _ S1 ch xs _ (Nat.le_refl _) hb2 hi n1 hO hk
theorem WpAt.seqW {x y : Code} (h : WpAt b P x (Exit.then (fun a w => WpAt b P y Q a w) Q) a w) : WpAt b P (.seq x y) Q a w := by
 intro k cs
 obtain ⟨e, a₁, w₁, hq, ha⟩ := h (.code y :: k) cs
 have s := one_wide (stepR_seq (P := P) (b := b) (a := a) (k := k) (cs := cs) (w := w) (x := x) (y := y))
 have ps : ∀ e, e ≠ .normal → ArrivesIn (Machine.fenced P Fence.wide) P (lone (b.atR a (.code x :: .code y :: k)) cs w) b (.code y :: k) cs e a₁ w₁ → ArrivesIn (Machine.fenced P Fence.wide) P (lone (b.atR a (.code (.seq x y) :: k)) cs w) b k cs e a₁ w₁ :=
  fun e he hh => .of_steps s (.pass (x := .code y) rfl (fun _ _ => .inl he) hh)
 cases e with
 | normal =>
   obtain ⟨e₂, a₂, w₂, hq₂, h₂⟩ := hq k cs
   exact ⟨e₂, a₂, w₂, hq₂, .of_steps (StepsIn.trans s ha) h₂⟩
 | exit id => exact ⟨_, _, _, hq, ps _ (by simp) ha⟩
 | goto l => exact ⟨_, _, _, hq, ps _ (by simp) ha⟩
 | ret => exact ⟨_, _, _, hq, ps _ (by simp) ha⟩
 | panic ch => exact ⟨_, _, _, hq, ps _ (by simp) ha⟩
 | outgrown => exact ⟨_, _, _, hq, ps _ (by simp) ha⟩
theorem leavesM_cons {fn : Func} {tmps : Array Value} {R : Ending → World → Prop} {fv : Fn} {cap dargs : Array Value} {ds : List Deferred} {u : FrameMode} {f : FuncId} {args : Array Value} (hu : u ≠ .run)
 (hi : (invoke (.fn fv cap) dargs).run P w = .ok (.enter f args) w)
 (h : CallsDIn Fence.wide (n - 1) P f args u w fun
   | .returned _, u', w' => LeavesInM Fence.wide n P fn tmps R ds (settle u') w'
   | .panicked chain, u', w' => LeavesInM Fence.wide n P fn tmps R ds (raised u' chain) w'
   | .outgrown, _, w' => R .outgrown w') :
 LeavesInM Fence.wide n P fn tmps R ({ target := .fn fv cap, args := dargs } :: ds) u w :=
 ⟨hu, .inr ⟨fun h => by simp [Fence.wide] at h, fv, cap, f, args, rfl, hi, fun _ _ => trivial, h⟩⟩
theorem leavesM_mark {fn : Func} {tmps : Array Value} {R : Ending → World → Prop} {dargs : Array Value} {ds : List Deferred} {u : FrameMode} {D : Nat} {w' : World} (hu : u ≠ .run) (ht : (Instr.takeDeferred D).run P w = .ok [] w')
 (h : LeavesInM Fence.wide n P fn tmps R ds u w') : LeavesInM Fence.wide n P fn tmps R ({ target := .collected D, args := dargs } :: ds) u w :=
 ⟨hu, .inl ⟨_, _, rfl, ht, h⟩⟩
def RunR (r : List Pc × Nat × Int) (w : World) (e : Ending) (w' : World) : Prop :=
 Below w.heap.size w w' ∧ ∃ a c, e = .returned (.tuple #[.slice a r.1.length c, .int .i64 (r.2.1 : Nat), .int .i64 r.2.2]) ∧ Pcs (Nu w.heap.size w') w' (.slice a r.1.length c) r.1
structure Three (L : Nat) (x y z : Value) (W : World) : Prop where
 l : W.heap[L]? = some (.cells #[x] 36 (0, 0))
 e : W.heap[L + 1]? = some (.cells #[y] 37 (0, 0))
 a : W.heap[L + 2]? = some (.cells #[z] 3 (0, 0))
structure ThreeC (L : Nat) (x y z : Value) (W : World) : Prop where
 l : W.cell? ⟨L, 0, none⟩ = some x
 e : W.cell? ⟨L + 1, 0, none⟩ = some y
 a : W.cell? ⟨L + 2, 0, none⟩ = some z
 fl : ∀ j, W.frozen? ⟨L, j, none⟩ = false
 fe : ∀ j, W.frozen? ⟨L + 1, j, none⟩ = false
 fa : ∀ j, W.frozen? ⟨L + 2, j, none⟩ = false
 lt : L + 2 < W.heap.size
theorem Three.cells {L : Nat} {x y z : Value} {W : World} (h : Three L x y z W) : ThreeC L x y z W :=
 ⟨by rw [cell_of_heap' h.l]; rfl, by rw [cell_of_heap' h.e]; rfl, by rw [cell_of_heap' h.a]; rfl, frozen_cells h.l, frozen_cells h.e, frozen_cells h.a, lt_of_block h.a⟩
theorem Three.below {L B : Nat} {x y z : Value} {W W' : World} (h : Three L x y z W) (hb : Below B W W') (hB : L + 2 < B) : Three L x y z W' :=
 ⟨(hb.block _ (by omega)).trans h.l, (hb.block _ (by omega)).trans h.e, (hb.block _ hB).trans h.a⟩
theorem Three.set {L : Nat} {x y z : Value} {W : World} (h : Three L x y z W) (x' y' z' : Value) : Three L x' y' z' (((W.setCell ⟨L, 0, none⟩ x').setCell ⟨L + 1, 0, none⟩ y').setCell ⟨L + 2, 0, none⟩ z') := by
 refine ⟨?_, ?_, ?_⟩
 · rw [Below.heap_setCell _ _ _ _ (by dsimp only; omega), Below.heap_setCell _ _ _ _ (by dsimp only; omega)]
   exact set_cells (j := 0) h.l _
 · rw [Below.heap_setCell _ _ _ _ (by dsimp only; omega)]
   exact set_cells (j := 0) ((Below.heap_setCell _ _ _ _ (by dsimp only; omega)).trans h.e) _
 · exact set_cells (j := 0) ((Below.heap_setCell _ _ _ _ (by dsimp only; omega)).trans ((Below.heap_setCell _ _ _ _ (by dsimp only; omega)).trans h.a)) _
theorem off_three {L : Nat} (x' y' z' : Value) (W : World) : Off (fun b => b ≠ L ∧ b ≠ L + 1 ∧ b ≠ L + 2) W (((W.setCell ⟨L, 0, none⟩ x').setCell ⟨L + 1, 0, none⟩ y').setCell ⟨L + 2, 0, none⟩ z') :=
 ⟨rfl, rfl, rfl, by simp [World.setCell], fun b hb => by rw [Below.heap_setCell _ _ _ _ hb.2.2, Below.heap_setCell _ _ _ _ hb.2.1, Below.heap_setCell _ _ _ _ hb.1]⟩
theorem results_run {W : World} {tmps : Array Value} {L : Nat} {x y z : Value} (h8 : tmps.getD 8 undef = .pointer (some ⟨L, 0, none⟩)) (h9 : tmps.getD 9 undef = .pointer (some ⟨L + 1, 0, none⟩)) (h10 : tmps.getD 10 undef = .pointer (some ⟨L + 2, 0, none⟩))
 (h : Three L x y z W) : (results Tryz.f12 tmps).run Tryz.prog W = .ok (.tuple #[x, y, z]) W := by
 obtain ⟨c0, c1, c2, -⟩ := h.cells
 have h8' : tmps[8]?.getD undef = .pointer (some ⟨L, 0, none⟩) := by rw [← h8]; simp
 have h9' : tmps[9]?.getD undef = .pointer (some ⟨L + 1, 0, none⟩) := by rw [← h9]; simp
 have h10' : tmps[10]?.getD undef = .pointer (some ⟨L + 2, 0, none⟩) := by rw [← h10]; simp
 simp [results, Tryz.results12, h8', h9', h10', go_sem, c0, c1, c2]
def closeR (L : Nat) : List Deferred := [{ target := .fn (.func 30) #[.pointer (some ⟨L + 1, 0, none⟩), .pointer (some ⟨L + 2, 0, none⟩)], args := #[] }]
theorem run_out0 {R : Ending → World → Prop} {tmps : Array Value} {W : World} {L : Nat} {x y z : Value} (h8 : tmps.getD 8 undef = .pointer (some ⟨L, 0, none⟩)) (h9 : tmps.getD 9 undef = .pointer (some ⟨L + 1, 0, none⟩)) (h10 : tmps.getD 10 undef = .pointer (some ⟨L + 2, 0, none⟩))
 (h : Three L x y z W) (hR : R (.returned (.tuple #[x, y, z])) W) : LeavesInM Fence.wide 5 Tryz.prog Tryz.f12 tmps R [] .returning W :=
 ⟨_, results_run h8 h9 h10 h, hR⟩
theorem run_out1 {R : Ending → World → Prop} {tmps : Array Value} {W : World} {L : Nat} {x y z : Value} (h8 : tmps.getD 8 undef = .pointer (some ⟨L, 0, none⟩)) (h9 : tmps.getD 9 undef = .pointer (some ⟨L + 1, 0, none⟩)) (h10 : tmps.getD 10 undef = .pointer (some ⟨L + 2, 0, none⟩))
 (h : Three L x y z W) (hR : R (.returned (.tuple #[x, y, z])) W) : LeavesInM Fence.wide 5 Tryz.prog Tryz.f12 tmps R (closeR L) .returning W := by
 refine leavesM_cons (f := 30) (args := #[.pointer (some ⟨L + 1, 0, none⟩), .pointer (some ⟨L + 2, 0, none⟩)]) (by simp) (by simp [go_sem]) ?_
 refine (runD_idle _ ⟨L + 1, 0, none⟩ ⟨L + 2, 0, none⟩ W).mono ?_
 rintro e u' w'' ⟨rfl, rfl, rfl⟩
 exact ⟨_, results_run h8 h9 h10 h, hR⟩
theorem run_outP {R : Ending → World → Prop} {tmps : Array Value} {W : World} {L : Nat} {x y z : Value} (n : Nat) (p : Int) (h8 : tmps.getD 8 undef = .pointer (some ⟨L, 0, none⟩)) (h9 : tmps.getD 9 undef = .pointer (some ⟨L + 1, 0, none⟩)) (h10 : tmps.getD 10 undef = .pointer (some ⟨L + 2, 0, none⟩))
 (h : Three L x y z W) (hR : ∀ w', Off (fun b => b < W.heap.size ∧ b ≠ L + 1 ∧ b ≠ L + 2) W w' → R (.returned (.tuple #[x, .int .i64 (n : Nat), .int .i64 p])) w') : LeavesInM Fence.wide 5 Tryz.prog Tryz.f12 tmps R (closeR L) (.panicking (wrongP n p)) W := by
 refine leavesM_cons (f := 30) (args := #[.pointer (some ⟨L + 1, 0, none⟩), .pointer (some ⟨L + 2, 0, none⟩)]) (by simp [wrongP]) (by simp [go_sem]) ?_
 refine (runD_catch _ (L + 1) (L + 2) (by omega) y z n p W h.e h.a).mono ?_
 rintro e u' w'' ⟨rfl, rfl, c1, c2, c3⟩
 have hl := lt_of_block h.l
 exact ⟨_, results_run h8 h9 h10 ⟨(c3.block L ⟨hl, by omega, by omega⟩).trans h.l, c1, c2⟩, hR w'' c3⟩
theorem run_end {w w3 W W2 : World} {L D n cv m : Nat} {av : Option Addr} {S : Nat → Prop} {l : List Pc} {p : Int} (hL : w.heap.size ≤ L) (hB3 : Below w.heap.size w w3) (hz : L + 2 < w3.heap.size) (hD : w3.heap.size ≤ D) (hSD : ¬ S D)
 (hoff : Off (fun b => b < w3.heap.size ∧ ¬ b = L) w3 W) (ho : Off (fun b => b < W.heap.size ∧ b ≠ L ∧ b ≠ L + 1 ∧ b ≠ L + 2 ∧ b ≠ D) W W2) (hpc : Pcs (fun b => S b ∧ Nu w3.heap.size W b) W (.slice av m cv) l) (hm : l.length = m) {r : List Pc × Nat × Int} (hr : r = (l, n, p)) :
 RunR r w (.returned (.tuple #[.slice av m cv, .int .i64 (n : Nat), .int .i64 p])) W2 := by
 subst hr
 subst hm
 have h3 := hB3.size
 have hW := hoff.size
 refine ⟨(((Off.of_below hB3).trans (hoff.mono fun b hb => by have : b < w.heap.size := hb; exact ⟨by omega, by omega⟩)).trans (ho.mono fun b hb => by have : b < w.heap.size := hb; exact ⟨by omega, by omega, by omega, by omega, by omega⟩)).below, av, cv, rfl, ?_⟩
 have hk : ∀ b, (S b ∧ Nu w3.heap.size W b) → W2.heap[b]? = W.heap[b]? := fun b hb => by
  have h1 := hb.2.1
  exact ho.block b ⟨hb.2.2.1, by omega, by omega, by omega, fun e => hSD (by rw [← e]; exact hb.1)⟩
 exact (hpc.kept hk).mono fun b hb => ⟨by have := hb.2.1; omega, Nat.lt_of_lt_of_le hb.2.2.1 ho.size, hb.2.2.2.same (hk b hb)⟩
end Go.Proofs.YtepcpgdfbaklfaaGreatDoor
