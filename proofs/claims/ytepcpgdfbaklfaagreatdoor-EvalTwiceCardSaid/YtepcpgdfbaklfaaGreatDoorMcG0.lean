/- A law on a region that draws its order of evaluation, inside a fence: whatever the order, what holds of what has been done holds at the end. No condition. -/
import Derived.Test.YtepcpgdfbaklfaaGreatDoorMcF0
import Derived.OrdersIn
import Derived.Test.YtepcpgdfbaklfaaGreatDoorMcTma
set_option linter.unusedVariables false
set_option linter.unusedSimpArgs false
namespace Go.Proofs.YtepcpgdfbaklfaaGreatDoor
open Go Go.RowKit
def unl (l : List Bool) : Nat := (l.filter fun b => !b).length
theorem unl_set : ∀ (l : List Bool) (i : Nat), l[i]? = some false → unl (l.set i true) + 1 = unl l
 | [], i, h => by simp at h
 | b :: l, 0, h => by
   simp at h
   subst h
   simp [unl]
 | b :: l, i + 1, h => by
   have ih := unl_set l i (by simpa using h)
   unfold unl at ih ⊢
   cases b <;> simp [List.set] <;> omega
theorem unl_zero : ∀ (l : List Bool), unl l = 0 → ∀ i, i < l.length → l[i]? = some true
 | [], _, i, h => by simp at h
 | b :: l, h, i, hi => by
   cases b with
   | false => simp [unl] at h
   | true =>
     cases i with
     | zero => rfl
     | succ i => simpa using unl_zero l (by simpa [unl] using h) i (by simpa using hi)
section
variable {F : Fence} {n : Nat} {P : Program} {ops : Array Oper} {Q : Exit → Act → World → Prop} {md : Region.Mode}
theorem getD_false {l : Array Bool} {i : Nat} (hi : i < l.size) (h : l.getD i true = false) : l.toList[i]? = some false := by
 rw [Array.getElem?_toList, Array.getElem?_eq_getElem hi]
 simp [Array.getD, hi] at h
 rw [h]
theorem anyIn_inv (Inv : Array Bool → Act → World → Prop) (hd : ∀ (i : Nat) (o : Oper), ops[i]? = some o → ∀ e ∈ o.after, e.on < i)
 (hstep : ∀ (listed : Array Bool) (a : Act) (w : World) (i : Nat) (o : Oper), Inv listed a w → listed.size = ops.size → ops[i]? = some o → listed.getD i false = false → (∀ e ∈ o.after, Region.binds md e = true → listed.getD e.on false = true) →
  (∀ (j : Nat) (oj : Oper), ops[j]? = some oj → listed.getD j false = true → ∀ e ∈ oj.after, Region.binds md e = true → listed.getD e.on false = true) → wpOpIn F n P ops Q i (Inv (listed.setIfInBounds i true)) a w)
 (hend : ∀ (listed : Array Bool) (a : Act) (w : World), Inv listed a w → (∀ i, i < ops.size → listed.getD i false = true) → Q .normal a w) :
 ∀ (fuel : Nat) (listed : Array Bool) (a : Act) (w : World), Inv listed a w → listed.size = ops.size → unl listed.toList ≤ fuel →
   (∀ (j : Nat) (oj : Oper), ops[j]? = some oj → listed.getD j false = true → ∀ e ∈ oj.after, Region.binds md e = true → listed.getD e.on false = true) → wpAnyIn F n P md ops Q fuel listed a w := by
 have hall : ∀ (listed : Array Bool), listed.size = ops.size → Region.ready md ops listed = [] → ∀ i, i < ops.size → listed.getD i false = true := by
  intro listed hs hr i
  induction i using Nat.strongRecOn with
  | _ i ih =>
    intro hi
    by_cases h : listed.getD i false = true
    · exact h
    · have hf : listed.getD i true = false := by
       have hi2 : i < listed.size := by omega
       simp [Array.getD, hi2] at h ⊢
       exact h
      have hm : i ∈ Region.ready md ops listed := mem_ready.2 ⟨hf, ops[i], Array.getElem?_eq_getElem hi, fun e he _ => ih e.on (hd i _ (Array.getElem?_eq_getElem hi) e he) (Nat.lt_trans (hd i _ (Array.getElem?_eq_getElem hi) e he) hi)⟩
      rw [hr] at hm
      cases hm
 intro fuel
 induction fuel with
 | zero =>
   intro listed a w hI hs hu hcl
   have hz := unl_zero _ (Nat.le_zero.1 hu)
   have hr : Region.ready md ops listed = [] := by
    rw [List.eq_nil_iff_forall_not_mem]
    intro j hj
    obtain ⟨h1, -⟩ := mem_ready.1 hj
    by_cases hjs : j < listed.size
    · have := hz j (by simpa using hjs)
      rw [getD_false hjs h1] at this
      cases this
    · simp [Array.getD, hjs] at h1
   exact ⟨hr, hend listed a w hI (hall listed hs hr)⟩
 | succ fuel ih =>
   intro listed a w hI hs hu hcl
   refine ⟨fun hr => hend listed a w hI (hall listed hs hr), fun i hi => ?_⟩
   obtain ⟨h1, o, ho, h2⟩ := mem_ready.1 hi
   have his : i < listed.size := by rw [hs]; exact (Array.getElem?_eq_some_iff.1 ho).1
   have h1' : listed.getD i false = false := by simp [Array.getD, his] at h1 ⊢; exact h1
   refine wpOpIn_mono (fun a w h => ih _ a w h (by simp [hs]) ?_ ?_) (hstep listed a w i o hI hs ho h1' h2 hcl)
   · have := unl_set listed.toList i (getD_false his h1)
     rw [Array.toList_setIfInBounds]
     omega
   · have up : ∀ j, listed.getD j false = true → (listed.setIfInBounds i true).getD j false = true := fun j hj => by
      by_cases e : i = j
      · subst e; simp [Array.getD, his]
      · simp only [Array.getD_eq_getD_getElem?, Array.getElem?_setIfInBounds, if_neg e]
        rwa [Array.getD_eq_getD_getElem?] at hj
     intro j oj hoj hj e he hb
     by_cases e' : j = i
     · subst e'
       obtain rfl := Option.some.inj (ho.symm.trans hoj)
       exact up _ (h2 e he hb)
     · refine up _ (hcl j oj hoj ?_ e he hb)
       simp only [Array.getD_eq_getD_getElem?, Array.getElem?_setIfInBounds, if_neg (fun x => e' (Eq.symm x))] at hj
       rwa [Array.getD_eq_getD_getElem?]
def early (ops : Array Oper) : Bool := (List.range ops.size).all fun i => ((ops[i]?).map fun o => o.after.all fun e => decide (e.on < i)).getD true
theorem early_spec (h : early ops = true) : ∀ (i : Nat) (o : Oper), ops[i]? = some o → ∀ e ∈ o.after, e.on < i := by
 intro i o ho e he
 have hi : i < ops.size := (Array.getElem?_eq_some_iff.1 ho).1
 have h1 := List.all_eq_true.1 h i (List.mem_range.2 hi)
 rw [ho] at h1
 simp only [Option.map_some, Option.getD_some] at h1
 exact of_decide_eq_true (Array.all_eq_true'.1 h1 e he)
theorem opIn_value {i : Nat} {o : Oper} {v : Value} {a : Act} {w w' : World} {K : Act → World → Prop} (ho : ops[i]? = some o) (hg : o.guard = none) (hrun : (execOp a.eval o).run P w = .ok (.value v) w') (hK : K (a.put o.dst v) w') : wpOpIn Fence.wide n P ops Q i K a w := by
 unfold wpOpIn
 simp only [ho]
 have hw : Region.wanted o (yielded ops a.tmps) = true := by simp [Region.wanted, hg]
 rw [if_pos hw]
 refine ⟨fun _ _ => trivial, ?_⟩
 have hro : Fence.wide.round = none := rfl
 rw [hro, Oper.semAt_none, hrun]
 exact hK
theorem opIn_call {i : Nat} {o : Oper} {f : FuncId} {args : Array Value} {a : Act} {w w' : World} {K : Act → World → Prop} {R : Ending → World → Prop} (ho : ops[i]? = some o) (hg : o.guard = none) (hrun : (execOp a.eval o).run P w = .ok (.enter f args) w') (hc : Calls P f args w' R)
 (hv : ∀ v w'', R (.returned v) w'' → K (a.put o.dst v) w'') (hp : ∀ ch w'', R (.panicked ch) w'' → Q (.panic ch) a w'') (hx : ∀ w'', ¬ R .outgrown w'') : wpOpIn Fence.wide n P ops Q i K a w := by
 unfold wpOpIn
 simp only [ho]
 have hw : Region.wanted o (yielded ops a.tmps) = true := by simp [Region.wanted, hg]
 rw [if_pos hw]
 refine ⟨fun _ _ => trivial, ?_⟩
 have hro : Fence.wide.round = none := rfl
 rw [hro, Oper.semAt_none, hrun]
 refine ⟨fun h => by simp [Fence.wide] at h, (callsIn_wide.2 hc).mono ?_⟩
 intro e w'' he
 cases e with
 | returned v => exact hv v w'' he
 | panicked ch => exact hp ch w'' he
 | outgrown => exact absurd he (hx w'')
theorem opIn_yield {i l : Nat} {o : Oper} {args : Array Value} {a : Act} {w w' : World} {K : Act → World → Prop} {R : Ending → World → Prop} (ho : ops[i]? = some o) (hg : o.guard = none) (hrun : (execOp a.eval o).run P w = (Instr.yield l args).run P w') (hc : YieldAt Fence.wide 4 P l args w' R)
 (hv : ∀ v w'', R (.returned v) w'' → K (a.put o.dst v) w'') (hp : ∀ ch w'', ¬ R (.panicked ch) w'') (hx : ∀ w'', ¬ R .outgrown w'') : wpOpIn Fence.wide 5 P ops Q i K a w := by
 unfold wpOpIn
 simp only [ho]
 have hw : Region.wanted o (yielded ops a.tmps) = true := by simp [Region.wanted, hg]
 rw [if_pos hw]
 refine ⟨fun _ _ => trivial, ?_⟩
 have hro : Fence.wide.round = none := rfl
 obtain ⟨fn, tmps, assign, body, hy, hR⟩ := hc
 rw [hro, Oper.semAt_none, hrun, hy]
 refine ⟨fun h => by simp [Fence.wide] at h, hR.mono ?_⟩
 intro e w'' he
 cases e with
 | returned v => exact hv v w'' he
 | panicked ch => exact absurd he (hp ch w'')
 | outgrown => exact absurd he (hx w'')
end
open Go.RowKit Go.Shelf Ev
structure It where
 pc : Pc
 a1 : Option Addr
 c1 : Nat
 a2 : Option Addr
 c2 : Nat
 T : Nat → Prop
def encP (x : It) : Array Value := #[.agg #[.int .i64 x.pc.pos, .bool x.pc.hole, .string x.pc.text, .int .u8 (x.pc.val.h.kind : Nat), .bool x.pc.val.h.b, .int .i64 x.pc.val.h.n, .int .u64 (x.pc.val.h.bits : Nat), .string x.pc.val.h.text, .slice x.a1 x.pc.val.h.keys.length x.c1, .slice x.a2 x.pc.val.items.len x.c2]]
def prP (B : Nat) (x : It) (W : World) : Prop := ValS x.T W x.pc.val x.a1 x.c1 x.a2 x.c2 ∧ (∀ b, x.T b → UnF W b) ∧ Va.sm x.pc.val ∧ ∀ b, x.T b → B ≤ b
theorem prP_off (N : Nat) (x : It) (A B : World) (h : prP N x A) (ho : Off x.T A B) : prP N x B := ⟨h.1.kept ho.block, fun b hb => (h.2.1 b hb).same (ho.block b hb), h.2.2⟩
def okS (S : Nat → Prop) (rb : Nat) (W : World) (b : Nat) : Prop := b < W.heap.size ∧ ¬ S b ∧ b ≠ rb
structure Stp (rb : Nat) (S : Nat → Prop) (W : World) (S' : Nat → Prop) (W' : World) : Prop where
 off : Off (okS S rb W) W W'
 grow : ∀ b, S' b → S b ∨ W.heap.size ≤ b
 lt : ∀ b, S' b → b < W'.heap.size
theorem Stp.ok {rb : Nat} {S S' : Nat → Prop} {W W' : World} (h : Stp rb S W S' W') : ∀ b, okS S rb W b → okS S' rb W' b := fun b hb =>
 ⟨Nat.lt_of_lt_of_le hb.1 h.off.size, fun hs => by rcases h.grow b hs with h1 | h1; exact hb.2.1 h1; have := hb.1; omega, hb.2.2⟩
theorem Stp.kept {rb : Nat} {S S' : Nat → Prop} {W W' : World} (h : Stp rb S W S' W') : Kept (okS S rb W) W W' := h.off.block
theorem Stp.trans {rb : Nat} {S S' S'' : Nat → Prop} {A B C : World} (h : Stp rb S A S' B) (k : Stp rb S' B S'' C) : Stp rb S A S'' C :=
 ⟨h.off.trans (k.off.mono h.ok), fun b hb => by
  rcases k.grow b hb with h1 | h1
  · exact h.grow b h1
  · have := h.off.size; exact .inr (by omega), k.lt⟩
theorem Stp.below {rb : Nat} {S : Nat → Prop} {W W' : World} (hS : ∀ b, S b → b < W.heap.size) (h : Below W.heap.size W W') : Stp rb S W S W' :=
 ⟨(Off.of_below h).mono fun b hb => hb.1, fun b hb => .inl hb, fun b hb => Nat.lt_of_lt_of_le (hS b hb) h.size⟩
theorem Stp.vals {rb : Nat} {S S' : Nat → Prop} {W W' : World} {x : Va} {a1 a2 : Option Addr} {c1 c2 : Nat} (h : Stp rb S W S' W') (hv : ValS (okS S rb W) W x a1 c1 a2 c2) : ValS (okS S' rb W') W' x a1 c1 a2 c2 := (hv.kept h.kept).mono h.ok
theorem Stp.parts {rb : Nat} {S S' : Nat → Prop} {W W' : World} {x : Pt} {v : Value} (h : Stp rb S W S' W') (hv : Parts (okS S rb W) W v x) : Parts (okS S' rb W') W' v x := (hv.kept h.kept).mono h.ok
theorem Stp.strs {rb : Nat} {S S' : Nat → Prop} {W W' : World} {x : List ByteArray} {v : Value} (h : Stp rb S W S' W') (hv : Strs (okS S rb W) W v x) : Strs (okS S' rb W') W' v x := (hv.kept h.kept).mono h.ok
theorem off_below {S : Nat → Prop} {W W' : World} (hS : ∀ b, S b → b < W.heap.size) (h : Below W.heap.size W W') : Off S W W' := (Off.of_below h).mono hS
def MapD (D : ByteArray → Pt) (ok : Nat → Prop) (mb : Nat) (W : World) : Prop := ∃ es clock, W.heap[mb]? = some (.map es clock) ∧ ∀ n : ByteArray,
 (∃ i a c, Instr.findNow .string (.string n) es.toList 0 = some (some (i, .slice a (D n).len c)) ∧ Parts ok W (.slice a (D n).len c) (D n)) ∨ (Instr.findNow .string (.string n) es.toList 0 = some none ∧ D n = .nil)
theorem MapD.step {D : ByteArray → Pt} {ok ok' : Nat → Prop} {mb : Nat} {W W' : World} (h : MapD D ok mb W) (hm : W'.heap[mb]? = W.heap[mb]?) (hk : Kept ok W W') (ho : ∀ b, ok b → ok' b) : MapD D ok' mb W' := by
 obtain ⟨es, clock, h1, h2⟩ := h
 refine ⟨es, clock, hm.trans h1, fun n => ?_⟩
 rcases h2 n with ⟨i, a, c, h3, h4⟩ | h3
 · exact .inl ⟨i, a, c, h3, (h4.kept hk).mono ho⟩
 · exact .inr h3
theorem zero_parts (w : World) : (zeroValue 22).run Tryz.prog w = .ok (.slice none 0 0) w := by kernel_rfl
theorem MapD.look {D : ByteArray → Pt} {ok : Nat → Prop} {mb : Nat} {W : World} (h : MapD D ok mb W) (n : ByteArray) :
 ∃ a c, (Instr.lookup 113 (.map (some mb)) (.string n) false).run Tryz.prog W = .ok (.slice a (D n).len c) W ∧ Parts ok W (.slice a (D n).len c) (D n) := by
 obtain ⟨es, clock, h1, h2⟩ := h
 rcases h2 n with ⟨i, a, c, h3, h4⟩ | ⟨h3, h4⟩
 · refine ⟨a, c, ?_, h4⟩
   have := run_look (P := Tryz.prog) 113 9 22 mb clock es n i _ false Tryz.underlying113 Tryz.underlying9 h1 h3
   simpa using this
 · rw [h4]
   refine ⟨none, 0, ?_, Parts.nil _ _⟩
   have := run_look_none (P := Tryz.prog) 113 9 22 mb clock es n _ false Tryz.underlying113 Tryz.underlying9 h1 h3 (zero_parts W)
   simp at this
   exact this
structure RunA (D : ByteArray → Pt) (C l rb mb : Nat) (S : Nat → Prop) (f : Nat) (W : World) : Prop where
 rest : W.heap[rb]? = some (restC mb f C l)
 rbS : ¬ S rb
 mbok : okS S rb W mb
 map : MapD D (okS S rb W) mb W
 lt : ∀ b, S b → b < W.heap.size
 fl : f ≤ 1000000
 cl : C ≤ 256
 dsm : ∀ n, (D n).sm ∧ (D n).cnt ≤ 16777216
theorem RunA.step {D : ByteArray → Pt} {C l rb mb f f' : Nat} {S S' : Nat → Prop} {W W' : World} (h : RunA D C l rb mb S f W) (hs : Stp rb S W S' W') (hr : W'.heap[rb]? = some (restC mb f' C l)) (hf : f' ≤ f) : RunA D C l rb mb S' f' W' where
 rest := hr
 rbS := fun hb => by
  rcases hs.grow rb hb with h1 | h1
  · exact h.rbS h1
  · have := lt_of_block h.rest; omega
 mbok := hs.ok mb h.mbok
 map := h.map.step (hs.off.block mb h.mbok) hs.kept hs.ok
 lt := hs.lt
 fl := Nat.le_trans hf h.fl
 cl := h.cl
 dsm := h.dsm
theorem RunA.below {D : ByteArray → Pt} {C l rb mb f : Nat} {S : Nat → Prop} {W W' : World} (h : RunA D C l rb mb S f W) (hb : Below W.heap.size W W') : RunA D C l rb mb S f W' :=
 h.step (Stp.below h.lt hb) ((hb.block rb (lt_of_block h.rest)).trans h.rest) (Nat.le_refl _)
theorem RunA.stp {D : ByteArray → Pt} {C l rb mb f : Nat} {S : Nat → Prop} {W W' : World} (h : RunA D C l rb mb S f W) (hb : Below W.heap.size W W') : Stp rb S W S W' := Stp.below h.lt hb
theorem RunA.new {D : ByteArray → Pt} {C l rb mb f : Nat} {S : Nat → Prop} {W W' : World} (h : RunA D C l rb mb S f W) {b : Nat} (h1 : W.heap.size ≤ b) (h2 : b < W'.heap.size) : okS S rb W' b :=
 ⟨h2, fun hs => by have := h.lt b hs; omega, fun e => by have := lt_of_block h.rest; omega⟩
def YieldS (l B : Nat) (J : (Nat → Prop) → List It → World → Prop) : Prop := ∀ S pre x W1, J S pre W1 → pre.length < 1000000 → Coming It.T (prP B) S x W1 →
 YieldAt Fence.wide 4 Tryz.prog l (encP x) W1 fun e W' => e = .returned (.bool true) ∧ ∃ S', J S' (pre ++ [x]) W' ∧ Turn S x.T S' W1 W'
def EvP (C l rb mb : Nat) (J : (Nat → Prop) → List It → World → Prop) (r : Ev.Rs) (S : Nat → Prop) (pre : List It) (W : World) (e : Ending) (W' : World) : Prop :=
 ∃ S' xs, J S' (pre ++ xs) W' ∧ xs.map It.pc = r.out ∧ Stp rb S W S' W' ∧ match r.err with
   | none => e = .returned (.bool true) ∧ W'.heap[rb]? = some (restC mb r.fuel C l)
   | some (n, p) => e = .panicked (wrongP n p)
theorem EvP.of_stp0 {C l rb mb : Nat} {J : (Nat → Prop) → List It → World → Prop} {r : Ev.Rs} {S S1 : Nat → Prop} {pre : List It} {W W1 W' : World} {e : Ending} (hs : Stp rb S W S1 W1) (h : EvP C l rb mb J r S1 pre W1 e W') : EvP C l rb mb J r S pre W e W' := by
 obtain ⟨S', xs, h1, h2, h3, h4⟩ := h
 exact ⟨S', xs, h1, h2, hs.trans h3, h4⟩
structure Okd (S : Nat → Prop) (rb : Nat) (W : World) (dot root : Va) (a1 a2 a3 a4 : Option Addr) (c1 c2 c3 c4 : Nat) : Prop where
 dsm : Va.sm dot
 rsm : Va.sm root
 dot : ValS (okS S rb W) W dot a1 c1 a2 c2
 root : ValS (okS S rb W) W root a3 c3 a4 c4
theorem Okd.step {rb : Nat} {S S' : Nat → Prop} {W W' : World} {dot root : Va} {a1 a2 a3 a4 : Option Addr} {c1 c2 c3 c4 : Nat} (h : Okd S rb W dot root a1 a2 a3 a4 c1 c2 c3 c4) (hs : Stp rb S W S' W') : Okd S' rb W' dot root a1 a2 a3 a4 c1 c2 c3 c4 :=
 ⟨h.dsm, h.rsm, hs.vals h.dot, hs.vals h.root⟩
attribute [local go_sem ↓] Go.wp_at_zero Go.wp_at_succ
def PartSaid (D : ByteArray → Pt) (C l rb mb : Nat) (J : (Nat → Prop) → List It → World → Prop) (n : Nat) : Prop := ∀ (dot root : Va) (h : Hd) (kd el : Pt) (deep f : Nat) (S : Nat → Prop) (pre : List It) (W : World) (a1 a2 a3 a4 an ak ae : Option Addr) (c1 c2 c3 c4 cn ck ce : Nat),
 f ≤ n → pre.length + f ≤ 1000000 → deep ≤ C → h.sm → kd.sm → el.sm → kd.cnt ≤ 16777216 → el.cnt ≤ 16777216 → RunA D C l rb mb S f W → J S pre W → Okd S rb W dot root a1 a2 a3 a4 c1 c2 c3 c4 → Strs (okS S rb W) W (.slice an h.names.length cn) h.names → Parts (okS S rb W) W (.slice ak kd.len ck) kd → Parts (okS S rb W) W (.slice ae el.len ce) el →
 Calls Tryz.prog 91 #[.agg #[.int .u8 (dot.h.kind : Nat), .bool dot.h.b, .int .i64 dot.h.n, .int .u64 (dot.h.bits : Nat), .string dot.h.text, .slice a1 dot.h.keys.length c1, .slice a2 dot.items.len c2, .int .u8 (root.h.kind : Nat), .bool root.h.b, .int .i64 root.h.n, .int .u64 (root.h.bits : Nat), .string root.h.text, .slice a3 root.h.keys.length c3, .slice a4 root.items.len c4, .int .i64 (deep : Nat), .pointer (some ⟨rb, 0, none⟩)], .agg #[.int .u8 (h.kind : Nat), .int .i64 h.pos, .string h.text, .bool h.root, .slice an h.names.length cn, .string h.name, .slice ak kd.len ck, .slice ae el.len ce]] W (EvP C l rb mb J (evF D C n dot root deep h kd el f) S pre W)
def PartsSaid (D : ByteArray → Pt) (C l rb mb : Nat) (J : (Nat → Prop) → List It → World → Prop) (n : Nat) : Prop := ∀ (dot root : Va) (x : Pt) (deep f : Nat) (S : Nat → Prop) (pre : List It) (W : World) (a1 a2 a3 a4 ax : Option Addr) (c1 c2 c3 c4 cx : Nat),
 f ≤ n → pre.length + f ≤ 1000000 → deep ≤ C → x.sm → x.cnt ≤ 16777216 → RunA D C l rb mb S f W → J S pre W → Okd S rb W dot root a1 a2 a3 a4 c1 c2 c3 c4 → Parts (okS S rb W) W (.slice ax x.len cx) x →
 Calls Tryz.prog 52 #[.agg #[.int .u8 (dot.h.kind : Nat), .bool dot.h.b, .int .i64 dot.h.n, .int .u64 (dot.h.bits : Nat), .string dot.h.text, .slice a1 dot.h.keys.length c1, .slice a2 dot.items.len c2, .int .u8 (root.h.kind : Nat), .bool root.h.b, .int .i64 root.h.n, .int .u64 (root.h.bits : Nat), .string root.h.text, .slice a3 root.h.keys.length c3, .slice a4 root.items.len c4, .int .i64 (deep : Nat), .pointer (some ⟨rb, 0, none⟩)], .slice ax x.len cx] W (EvP C l rb mb J (listF (evF D C n dot root deep) x f) S pre W)
def RestP (ok : Nat → Prop) (a : Option Addr) (w : World) (r : Pt) (k : Nat) : Prop := r ≠ .nil → ∃ b o, a = some ⟨b, o, none⟩ ∧ ok b ∧ Row ok w r b (o + k * 8)
theorem cost_seq {f : Nat} {a : Ev.Rs} {k : Nat → Ev.Rs} (h : a.out.length + a.fuel ≤ f) (hk : ∀ g, g ≤ f → (k g).out.length + (k g).fuel ≤ g) : (a.seq k).out.length + (a.seq k).fuel ≤ f := by
 cases ha : a.err with
 | some x => simp only [Ev.Rs.seq, ha]; exact h
 | none =>
   simp only [Ev.Rs.seq, ha, List.length_append]
   have := hk a.fuel (by omega)
   omega
theorem cost_list {one : Hd → Pt → Pt → Nat → Ev.Rs} {F : Nat} (h : ∀ x k e f, f ≤ F → (one x k e f).out.length + (one x k e f).fuel ≤ f) : ∀ l f, f ≤ F → (listF one l f).out.length + (listF one l f).fuel ≤ f
 | .nil, f, _ => by simp [listF]
 | .cons x k e r, f, hf => cost_seq (h x k e f hf) fun g hg => cost_list h r g (Nat.le_trans hg hf)
theorem cost_items {pos : Int} {go : Va → Nat → Ev.Rs} {F : Nat} (h : ∀ x f, f ≤ F → (go x f).out.length + (go x f).fuel ≤ f) : ∀ l f, f ≤ F → (itemsF pos go l f).out.length + (itemsF pos go l f).fuel ≤ f
 | .nil, f, _ => by simp [itemsF]
 | .cons x i r, f, hf => by
   refine cost_seq ?_ fun g hg => cost_items h r g (Nat.le_trans hg hf)
   cases f with
   | zero => simp [burnF]
   | succ f => exact Nat.le_trans (h _ f (by omega)) (by omega)
theorem cost_ev {D : ByteArray → Pt} {C : Nat} : ∀ n dot root deep h k e f, (evF D C n dot root deep h k e f).out.length + (evF D C n dot root deep h k e f).fuel ≤ f
 | 0, _, _, _, _, _, _, f => by simp [evF]
 | n + 1, dot, root, deep, h, k, e, f => by
   cases f with
   | zero => simp [evF, burnF]
   | succ f =>
     simp only [evF, burnF]
     have IL : ∀ dot root deep l f, (listF (evF D C n dot root deep) l f).out.length + (listF (evF D C n dot root deep) l f).fuel ≤ f := fun dot root deep l f =>
      cost_list (F := f) (fun x k e f _ => cost_ev n dot root deep x k e f) l f (Nat.le_refl _)
     split
     · simp; omega
     · split
       · simp
       · split
         · simp; omega
         · split
           · exact Nat.le_trans (IL _ _ _ _ _) (by omega)
           · split
             · split
               · split
                 · exact Nat.le_trans (IL _ _ _ _ _) (by omega)
                 · exact Nat.le_trans (cost_items (F := f) (fun x g _ => IL _ _ _ _ _) _ f (Nat.le_refl _)) (by omega)
               · simp
             · split
               · simp
               · exact Nat.le_trans (IL _ _ _ _ _) (by omega)
theorem list_go {one : Hd → Pt → Pt → Nat → Ev.Rs} {o ro : List Pc} {f f2 : Nat} {h : Hd} {k e r : Pt} (hr : one h k e f = ⟨ro, f2, none⟩) : (⟨o, f, none⟩ : Ev.Rs).seq (listF one (.cons h k e r)) = (⟨o ++ ro, f2, none⟩ : Ev.Rs).seq (listF one r) := by
 simp only [listF, Ev.Rs.seq, hr, List.append_assoc]
theorem list_stop {one : Hd → Pt → Pt → Nat → Ev.Rs} {o ro : List Pc} {f f2 : Nat} {h : Hd} {k e r : Pt} {q : Nat × Int} (hr : one h k e f = ⟨ro, f2, some q⟩) : (⟨o, f, none⟩ : Ev.Rs).seq (listF one (.cons h k e r)) = ⟨o ++ ro, f2, some q⟩ := by
 simp only [listF, Ev.Rs.seq, hr]
set_option maxRecDepth 100000 in
set_option maxHeartbeats 40000000 in
theorem parts_of_part (D : ByteArray → Pt) (C l rb mb : Nat) (J : (Nat → Prop) → List It → World → Prop) (HJ : Lies J) (n : Nat) (hp : PartSaid D C l rb mb J n) : PartsSaid D C l rb mb J n := by
 intro dot root x deep f S pre W a1 a2 a3 a4 ax c1 c2 c3 c4 cx hfn hcap hdc hsm hcnt hrun hJ hok hx
 have HB0 : Hid (Below W.heap.size W (W.alloc (.cells #[.int .u8 (dot.h.kind : Nat), .bool dot.h.b, .int .i64 dot.h.n, .int .u64 (dot.h.bits : Nat), .string dot.h.text, .slice a1 dot.h.keys.length c1, .slice a2 dot.items.len c2, .int .u8 (root.h.kind : Nat), .bool root.h.b, .int .i64 root.h.n, .int .u64 (root.h.bits : Nat), .string root.h.text, .slice a3 root.h.keys.length c3, .slice a4 root.items.len c4, .int .i64 (deep : Nat), .pointer (some ⟨rb, 0, none⟩)] 120))) := (Below.refl _ W).alloc (Nat.le_refl _) _
 have HR0 : Hid ((W.alloc (.cells #[.int .u8 (dot.h.kind : Nat), .bool dot.h.b, .int .i64 dot.h.n, .int .u64 (dot.h.bits : Nat), .string dot.h.text, .slice a1 dot.h.keys.length c1, .slice a2 dot.items.len c2, .int .u8 (root.h.kind : Nat), .bool root.h.b, .int .i64 root.h.n, .int .u64 (root.h.bits : Nat), .string root.h.text, .slice a3 root.h.keys.length c3, .slice a4 root.items.len c4, .int .i64 (deep : Nat), .pointer (some ⟨rb, 0, none⟩)] 120)).heap[W.heap.size]? = some (.cells #[.int .u8 (dot.h.kind : Nat), .bool dot.h.b, .int .i64 dot.h.n, .int .u64 (dot.h.bits : Nat), .string dot.h.text, .slice a1 dot.h.keys.length c1, .slice a2 dot.items.len c2, .int .u8 (root.h.kind : Nat), .bool root.h.b, .int .i64 root.h.n, .int .u64 (root.h.bits : Nat), .string root.h.text, .slice a3 root.h.keys.length c3, .slice a4 root.items.len c4, .int .i64 (deep : Nat), .pointer (some ⟨rb, 0, none⟩)] 120 (0, 0))) := heap_alloc_new W _
 have HS0 : Hid ((W.alloc (.cells #[.int .u8 (dot.h.kind : Nat), .bool dot.h.b, .int .i64 dot.h.n, .int .u64 (dot.h.bits : Nat), .string dot.h.text, .slice a1 dot.h.keys.length c1, .slice a2 dot.items.len c2, .int .u8 (root.h.kind : Nat), .bool root.h.b, .int .i64 root.h.n, .int .u64 (root.h.bits : Nat), .string root.h.text, .slice a3 root.h.keys.length c3, .slice a4 root.items.len c4, .int .i64 (deep : Nat), .pointer (some ⟨rb, 0, none⟩)] 120)).heap.size = W.heap.size + 1) := by unfold Hid; simp
 have hst0 := hrun.stp HB0.out
 have HST0 := Lib.hid hst0
 have HOK0 := Lib.hid (hok.step hst0)
 have HRUN0 := Lib.hid (hrun.below HB0.out)
 have HJ0 := Lib.hid (HJ _ _ _ _ hJ (off_below hrun.lt HB0.out))
 have HN0 : Hid (okS S rb (W.alloc (.cells #[.int .u8 (dot.h.kind : Nat), .bool dot.h.b, .int .i64 dot.h.n, .int .u64 (dot.h.bits : Nat), .string dot.h.text, .slice a1 dot.h.keys.length c1, .slice a2 dot.items.len c2, .int .u8 (root.h.kind : Nat), .bool root.h.b, .int .i64 root.h.n, .int .u64 (root.h.bits : Nat), .string root.h.text, .slice a3 root.h.keys.length c3, .slice a4 root.items.len c4, .int .i64 (deep : Nat), .pointer (some ⟨rb, 0, none⟩)] 120)) W.heap.size) := hrun.new (Nat.le_refl _) (by rw [HS0.out]; omega)
 have HX0 : Hid (RestP (okS S rb (W.alloc (.cells #[.int .u8 (dot.h.kind : Nat), .bool dot.h.b, .int .i64 dot.h.n, .int .u64 (dot.h.bits : Nat), .string dot.h.text, .slice a1 dot.h.keys.length c1, .slice a2 dot.items.len c2, .int .u8 (root.h.kind : Nat), .bool root.h.b, .int .i64 root.h.n, .int .u64 (root.h.bits : Nat), .string root.h.text, .slice a3 root.h.keys.length c3, .slice a4 root.items.len c4, .int .i64 (deep : Nat), .pointer (some ⟨rb, 0, none⟩)] 120))) ax (W.alloc (.cells #[.int .u8 (dot.h.kind : Nat), .bool dot.h.b, .int .i64 dot.h.n, .int .u64 (dot.h.bits : Nat), .string dot.h.text, .slice a1 dot.h.keys.length c1, .slice a2 dot.items.len c2, .int .u8 (root.h.kind : Nat), .bool root.h.b, .int .i64 root.h.n, .int .u64 (root.h.bits : Nat), .string root.h.text, .slice a3 root.h.keys.length c3, .slice a4 root.items.len c4, .int .i64 (deep : Nat), .pointer (some ⟨rb, 0, none⟩)] 120)) x 0) := by
  intro hne
  obtain ⟨a', c', hv, -, -, h3⟩ := hst0.parts hx
  cases hv
  obtain ⟨b, o, h4, h5, h6⟩ := h3 hne
  exact ⟨b, o, h4, h5, by rw [Nat.zero_mul, Nat.add_zero]; exact h6⟩
 have HP := Lib.hid hp
 have HJJ := Lib.hid HJ
 have HSM := Lib.hid hsm
 have HFN := Lib.hid hfn
 have HDC := Lib.hid hdc
 have hlc := len_le_cnt x
 clear hst0 hrun hJ hok hx hp HJ hsm hfn hdc
 go_enter Tryz.func52, Tryz.ntmps52
 go_wp2_with fail
 generalize hWW : World.alloc W _ = W0 at *
 clear hWW
 go_loopw [9] (fun i wr => ∃ (k f' : Nat) (r : Pt) (S' : Nat → Prop) (xs : List It), i = .int .i64 (k : Nat) ∧ k + r.len = x.len ∧ f' ≤ f ∧ xs.length + f' ≤ f ∧ Hid (J S' (pre ++ xs) wr) ∧ Hid (Stp rb S W0 S' wr) ∧ Hid (wr.heap[rb]? = some (restC mb f' C l)) ∧
  Hid (listF (evF D C n dot root deep) x f = (⟨xs.map It.pc, f', none⟩ : Ev.Rs).seq (listF (evF D C n dot root deep) r)) ∧ Hid (RestP (okS S rb W0) ax W0 r k) ∧ Hid r.sm ∧ r.cnt ≤ x.cnt) (fun i _ => x.len - (intOf i).toNat)
 case atStart => exact ⟨0, f, x, S, [], rfl, by omega, Nat.le_refl _, by simp, by rw [List.append_nil]; exact HJ0, Stp.below HRUN0.out.lt (Below.refl _ _), HRUN0.out.rest, by unfold Hid; rw [List.map_nil, nil_seq], HX0, HSM, Nat.le_refl _⟩
 case round =>
  obtain ⟨k, f', r, S', xs, rfl, hk, hff, hlx, HJr, HST, HRE, HEQ, HR, HSR, hcn⟩ := hrel
  cases r with
  | nil =>
    simp only [Pt.len] at hk
    have hge : ¬ (k : Int) < (x.len : Int) := by omega
    have HOUT : Hid (listF (evF D C n dot root deep) x f = ⟨xs.map It.pc, f', none⟩) := by unfold Hid; rw [HEQ.out]; simp [listF, Ev.Rs.seq]
    go_wp2_with fail
    go_ret
    rw [HOUT.out]
    exact ⟨S', xs, HJr.out, rfl, HST0.out.trans HST.out, rfl, HRE.out⟩
  | cons h kd el r =>
    simp only [Pt.len] at hk
    simp only [Pt.cnt] at hcn
    have hlt' : (k : Int) < (x.len : Int) := by omega
    have hk0 : (0 : Int) ≤ (k : Int) := by omega
    obtain ⟨b, o, rfl, hb, hrow⟩ := HR.out (by simp)
    obtain ⟨hsh, hsk, hse, hsr⟩ := HSR.out
    have HRS : Hid (RestP (okS S rb W0) (some ⟨b, o, none⟩) W0 r (k + 1)) := fun _ => ⟨b, o, rfl, hb, by have := hrow.2.2.2; rwa [show o + k * 8 + 8 = o + (k + 1) * 8 by omega] at this⟩
    have HSR2 := Lib.hid hsr
    obtain ⟨⟨g0, g1, g2, g3, ⟨vn, g4, hstr⟩, g5⟩, ⟨ak, ck, g6, k1, k2, k3⟩, ⟨ae, ce, g7, e1, e2, e3⟩, -⟩ := hrow
    obtain ⟨an, cn, rfl⟩ := hstr.cases
    have hbk := HST.out.off.block b hb
    have hbl : b < wr.heap.size := (HST.out.ok b hb).1
    have cc : ∀ j y, W0.cell? ⟨b, o + k * 8 + j, none⟩ = some y → wr.cell? ⟨b, o + k * 8 + j, none⟩ = some y := fun j y hy => (World.cell?_of_block (w := W0) hbk).trans hy
    have p0 := cc 0 _ g0
    have p1 := cc 1 _ g1
    have p2 := cc 2 _ g2
    have p3 := cc 3 _ g3
    have p4 := cc 4 _ g4
    have p5 := cc 5 _ g5
    have p6 := cc 6 _ g6
    have p7 := cc 7 _ g7
    rw [Nat.add_zero] at p0
    have hrb := (HST.out.off.block _ HN0.out).trans HR0.out
    have hrl : W.heap.size < wr.heap.size := (HST.out.ok _ HN0.out).1
    have q0 : wr.cell? ⟨W.heap.size, 0, none⟩ = some (.int .u8 (dot.h.kind : Nat)) := by rw [cell_of_heap' hrb]; rfl
    have q1 : wr.cell? ⟨W.heap.size, 1, none⟩ = some (.bool dot.h.b) := by rw [cell_of_heap' hrb]; rfl
    have q2 : wr.cell? ⟨W.heap.size, 2, none⟩ = some (.int .i64 dot.h.n) := by rw [cell_of_heap' hrb]; rfl
    have q3 : wr.cell? ⟨W.heap.size, 3, none⟩ = some (.int .u64 (dot.h.bits : Nat)) := by rw [cell_of_heap' hrb]; rfl
    have q4 : wr.cell? ⟨W.heap.size, 4, none⟩ = some (.string dot.h.text) := by rw [cell_of_heap' hrb]; rfl
    have q5 : wr.cell? ⟨W.heap.size, 5, none⟩ = some (.slice a1 dot.h.keys.length c1) := by rw [cell_of_heap' hrb]; rfl
    have q6 : wr.cell? ⟨W.heap.size, 6, none⟩ = some (.slice a2 dot.items.len c2) := by rw [cell_of_heap' hrb]; rfl
    have q7 : wr.cell? ⟨W.heap.size, 7, none⟩ = some (.int .u8 (root.h.kind : Nat)) := by rw [cell_of_heap' hrb]; rfl
    have q8 : wr.cell? ⟨W.heap.size, 8, none⟩ = some (.bool root.h.b) := by rw [cell_of_heap' hrb]; rfl
    have q9 : wr.cell? ⟨W.heap.size, 9, none⟩ = some (.int .i64 root.h.n) := by rw [cell_of_heap' hrb]; rfl
    have q10 : wr.cell? ⟨W.heap.size, 10, none⟩ = some (.int .u64 (root.h.bits : Nat)) := by rw [cell_of_heap' hrb]; rfl
    have q11 : wr.cell? ⟨W.heap.size, 11, none⟩ = some (.string root.h.text) := by rw [cell_of_heap' hrb]; rfl
    have q12 : wr.cell? ⟨W.heap.size, 12, none⟩ = some (.slice a3 root.h.keys.length c3) := by rw [cell_of_heap' hrb]; rfl
    have q13 : wr.cell? ⟨W.heap.size, 13, none⟩ = some (.slice a4 root.items.len c4) := by rw [cell_of_heap' hrb]; rfl
    have q14 : wr.cell? ⟨W.heap.size, 14, none⟩ = some (.int .i64 (deep : Nat)) := by rw [cell_of_heap' hrb]; rfl
    have q15 : wr.cell? ⟨W.heap.size, 15, none⟩ = some (.pointer (some ⟨rb, 0, none⟩)) := by rw [cell_of_heap' hrb]; rfl
    have HA : Hid (Below wr.heap.size wr (wr.alloc (.cells #[.int .u8 (h.kind : Nat), .int .i64 h.pos, .string h.text, .bool h.root, .slice an h.names.length cn, .string h.name, .slice ak kd.len ck, .slice ae el.len ce] 56))) := (Below.refl _ wr).alloc (Nat.le_refl _) _
    have HRUNr := Lib.hid (HRUN0.out.step HST.out HRE.out hff)
    have KC : Hid (Calls Tryz.prog 91 #[.agg #[.int .u8 (dot.h.kind : Nat), .bool dot.h.b, .int .i64 dot.h.n, .int .u64 (dot.h.bits : Nat), .string dot.h.text, .slice a1 dot.h.keys.length c1, .slice a2 dot.items.len c2, .int .u8 (root.h.kind : Nat), .bool root.h.b, .int .i64 root.h.n, .int .u64 (root.h.bits : Nat), .string root.h.text, .slice a3 root.h.keys.length c3, .slice a4 root.items.len c4, .int .i64 (deep : Nat), .pointer (some ⟨rb, 0, none⟩)], .agg #[.int .u8 (h.kind : Nat), .int .i64 h.pos, .string h.text, .bool h.root, .slice an h.names.length cn, .string h.name, .slice ak kd.len ck, .slice ae el.len ce]] (wr.alloc (.cells #[.int .u8 (h.kind : Nat), .int .i64 h.pos, .string h.text, .bool h.root, .slice an h.names.length cn, .string h.name, .slice ak kd.len ck, .slice ae el.len ce] 56)) (EvP C l rb mb J (evF D C n dot root deep h kd el f') S' (pre ++ xs) (wr.alloc (.cells #[.int .u8 (h.kind : Nat), .int .i64 h.pos, .string h.text, .bool h.root, .slice an h.names.length cn, .string h.name, .slice ak kd.len ck, .slice ae el.len ce] 56)))) := by
     have hst := HST.out.trans (HRUNr.out.stp HA.out)
     exact HP.out dot root h kd el deep f' S' (pre ++ xs) _ a1 a2 a3 a4 an ak ae c1 c2 c3 c4 cn ck ce (Nat.le_trans hff HFN.out) (by rw [List.length_append]; omega) HDC.out hsh hsk hse (by omega) (by omega) (HRUNr.out.below HA.out) (HJJ.out _ _ _ _ HJr.out (off_below HRUNr.out.lt HA.out)) (HOK0.out.step hst) (hst.strs hstr) (hst.parts ⟨ak, ck, rfl, k1, k2, k3⟩) (hst.parts ⟨ae, ce, rfl, e1, e2, e3⟩)
    have HSA := Lib.hid (HRUNr.out.stp HA.out)
    have HKI := Lib.hid hk
    have hki : k + 1 + r.len ≤ x.len := by omega
    have hle := less_ev (D := D) (C := C) n dot root deep h kd el f'
    have hcst := cost_ev (D := D) (C := C) n dot root deep h kd el f'
    clear cc hrb hbk g0 g1 g2 g3 g4 g5 g6 g7 k3 e3 hstr hsh hsk hse hsr hk
    obtain ⟨ro, hro⟩ : ∃ ro, evF D C n dot root deep h kd el f' = ro := ⟨_, rfl⟩
    rw [hro] at KC hle hcst
    obtain ⟨ro, rf, re⟩ := ro
    have hcs : ro.length + rf ≤ f' := hcst
    clear hcst
    have HRO := Lib.hid hro
    clear hro
    go_wp2_with fail
    refine KC.out.mono ?_
    rintro e w3 ⟨S3, ys, hJ3, hout, hst3, hend⟩
    have HJ3 := Lib.hid hJ3
    have HOUT3 := Lib.hid hout
    have HST3 := Lib.hid (HST.out.trans (HSA.out.trans hst3))
    clear hJ3 hout hst3 KC p0 p1 p2 p3 p4 p5 p6 p7 q0 q1 q2 q3 q4 q5 q6 q7 q8 q9 q10 q11 q12 q13 q14 q15
    cases re with
    | none =>
      obtain ⟨rfl, hre⟩ := hend
      have HRE3 := Lib.hid hre
      have HEQ3 : Hid (listF (evF D C n dot root deep) x f = (⟨(xs ++ ys).map It.pc, rf, none⟩ : Ev.Rs).seq (listF (evF D C n dot root deep) r)) := by
       unfold Hid
       rw [HEQ.out, list_go HRO.out, List.map_append, HOUT3.out]
      have HJ4 : Hid (J S3 (pre ++ (xs ++ ys)) w3) := by unfold Hid; rw [← List.append_assoc]; exact HJ3.out
      clear hre
      go_wp2_with fail
      go_roundw
      case rel => exact ⟨k + 1, rf, r, S3, xs ++ ys, by go_num, by have := HKI.out; omega, by omega, by have h5 := congrArg List.length HOUT3.out; rw [List.length_map] at h5; rw [List.length_append]; omega, HJ4, HST3, HRE3, HEQ3, HRS, HSR2, by omega⟩
      case measure => simp [intOf]; have := HKI.out; omega
    | some q =>
      obtain ⟨qn, qp⟩ := q
      obtain rfl := hend
      have HEQ3 : Hid (listF (evF D C n dot root deep) x f = ⟨xs.map It.pc ++ ro, rf, some (qn, qp)⟩) := by unfold Hid; rw [HEQ.out, list_stop HRO.out]
      go_wp2_with fail
      rw [HEQ3.out]
      exact ⟨rfl, S3, xs ++ ys, by rw [← List.append_assoc]; exact HJ3.out, by rw [List.map_append, HOUT3.out], HST0.out.trans HST3.out, rfl⟩
end Go.Proofs.YtepcpgdfbaklfaaGreatDoor
