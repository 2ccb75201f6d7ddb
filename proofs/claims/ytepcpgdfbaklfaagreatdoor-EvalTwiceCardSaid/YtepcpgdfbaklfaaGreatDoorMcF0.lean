/- A law on a range over a function that gives up by a panic of its own, behind any of its rounds; the body keeps a list in blocks of its own. No condition. -/
import Derived.Test.YtepcpgdfbaklfaaGreatDoorTrp
import Derived.Test.YtepcpgdfbaklfaaGreatDoorMcF1
import Derived.Test.YtepcpgdfbaklfaaGreatDoorMcE0
set_option linter.unusedVariables false
set_option linter.unusedSimpArgs false
namespace Go.Proofs.YtepcpgdfbaklfaaGreatDoor
open Go Go.RowKit
variable {P : Program} {b : Frame} {n : Nat} {Q : Exit → Act → World → Prop} {a : Act} {w : World}
structure Off (S : Nat → Prop) (A B : World) : Prop where
 os : B.os = A.os
 tape : B.tape = A.tape
 output : B.output = A.output
 size : A.heap.size ≤ B.heap.size
 block : ∀ b, S b → B.heap[b]? = A.heap[b]?
theorem Off.refl (S : Nat → Prop) (A : World) : Off S A A := ⟨rfl, rfl, rfl, Nat.le_refl _, fun _ _ => rfl⟩
theorem Off.trans {S : Nat → Prop} {A B C : World} (h : Off S A B) (k : Off S B C) : Off S A C :=
 ⟨k.os.trans h.os, k.tape.trans h.tape, k.output.trans h.output, Nat.le_trans h.size k.size, fun b hb => (k.block b hb).trans (h.block b hb)⟩
theorem Off.mono {S S' : Nat → Prop} {A B : World} (h : Off S A B) (hs : ∀ b, S' b → S b) : Off S' A B := ⟨h.os, h.tape, h.output, h.size, fun b hb => h.block b (hs b hb)⟩
theorem Off.of_below {N : Nat} {A B : World} (h : Below N A B) : Off (· < N) A B := ⟨h.os, h.tape, h.output, h.size, h.block⟩
theorem Off.below {N : Nat} {A B : World} (h : Off (· < N) A B) : Below N A B := ⟨h.os, h.tape, h.output, h.size, h.block⟩
theorem Off.putObj {S : Nat → Prop} {A : World} {l : Nat} (o : Obj) (h : ¬ S l) : Off S A (A.putObj l o) :=
 ⟨rfl, rfl, rfl, by simp [World.putObj], fun b hb => World.putObj_heap_other (fun e => h (by rw [← e]; exact hb))⟩
structure Turn (S T S' : Nat → Prop) (A B : World) : Prop where
 off : Off (fun b => b < A.heap.size ∧ ¬ S b) A B
 grow : ∀ b, S' b → S b ∨ T b ∨ A.heap.size ≤ b
 lt : ∀ b, S' b → b < B.heap.size
def Lies {α : Type} (J : (Nat → Prop) → List α → World → Prop) : Prop := ∀ S pre A B, J S pre A → Off S A B → J S pre B
structure Coming {α : Type} (T : α → Nat → Prop) (Pr : α → World → Prop) (S : Nat → Prop) (x : α) (W : World) : Prop where
 new : ∀ b, T x b → ¬ S b ∧ b < W.heap.size
 is : Pr x W
def Hands (P : Program) (gf : Nat) (lb : Array Value) {α : Type} (encs : α → Array Value) (T : α → Nat → Prop) (Pr : α → World → Prop) (Good : List α → Prop) (Bad : List PanicEntry → List α → Prop) (Old : Nat → Prop) (w : World) : Prop :=
 ∀ (l : Nat) (J : (Nat → Prop) → List α → World → Prop) (S : Nat → Prop) (W : World), Below w.heap.size w W → (∀ b, S b → b < W.heap.size) → (∀ b, Old b → ¬ S b) → Lies J →
   (∀ S pre x W1, J S pre W1 → pre.length < 1000000 → Coming T Pr S x W1 → YieldAt Fence.wide 4 P l (encs x) W1 fun e W' => e = .returned (.bool true) ∧ ∃ S', J S' (pre ++ [x]) W' ∧ Turn S (T x) S' W1 W') → J S [] W →
   CallsIn Fence.wide 5 P gf (#[.func (.yield l) #[] #[]] ++ lb) W fun e W' => ∃ S' xs, J S' xs W' ∧ Off (fun b => b < W.heap.size ∧ ¬ S b) W W' ∧ ((∃ v, e = .returned v ∧ Good xs) ∨ (∃ ch, e = .panicked ch ∧ Bad ch xs))
def bodyQ {α : Type} (T : α → Nat → Prop) (I : (Nat → Prop) → List α → World → Prop) (S : Nat → Prop) (pre : List α) (x : α) (W : World) : Exit → Act → World → Prop
 | .normal, _, W' => ∃ S', I S' (pre ++ [x]) W' ∧ Turn S (T x) S' W W'
 | _, _, _ => False
open Go.RowKit Go.Shelf Ev
attribute [local go_sem ↓] Go.wp_at_zero Go.wp_at_succ
def ValS (ok : Nat → Prop) (w : World) (x : Va) (a1 : Option Addr) (c1 : Nat) (a2 : Option Addr) (c2 : Nat) : Prop := Strs ok w (.slice a1 x.h.keys.length c1) x.h.keys ∧ Vals ok w (.slice a2 x.items.len c2) x.items
theorem ValS.kept {ok : Nat → Prop} {w w' : World} {x : Va} {a1 a2 : Option Addr} {c1 c2 : Nat} (h : ValS ok w x a1 c1 a2 c2) (hk : Kept ok w w') : ValS ok w' x a1 c1 a2 c2 := ⟨h.1.kept hk, h.2.kept hk⟩
theorem ValS.mono {ok ok' : Nat → Prop} {w : World} {x : Va} {a1 a2 : Option Addr} {c1 c2 : Nat} (h : ValS ok w x a1 c1 a2 c2) (hk : ∀ b, ok b → ok' b) : ValS ok' w x a1 c1 a2 c2 := ⟨h.1.mono hk, h.2.mono hk⟩
theorem ValS.lt {ok : Nat → Prop} {w : World} {x : Va} {a1 a2 : Option Addr} {c1 c2 : Nat} (h : ValS ok w x a1 c1 a2 c2) : ValS (fun b => ok b ∧ b < w.heap.size) w x a1 c1 a2 c2 := ⟨h.1.lt, Vals.lt h.2⟩
theorem ValS.val {ok : Nat → Prop} {w : World} {x : Va} {a1 a2 : Option Addr} {c1 c2 : Nat} (h : ValS ok w x a1 c1 a2 c2) : ValM ok w (.agg #[.int .u8 (x.h.kind : Nat), .bool x.h.b, .int .i64 x.h.n, .int .u64 (x.h.bits : Nat), .string x.h.text, .slice a1 x.h.keys.length c1, .slice a2 x.items.len c2]) x := ⟨_, _, rfl, h.1, h.2⟩
theorem ValM.vals {ok : Nat → Prop} {w : World} {v : Value} {x : Va} (h : ValM ok w v x) : ∃ a1 c1 a2 c2, v = .agg #[.int .u8 (x.h.kind : Nat), .bool x.h.b, .int .i64 x.h.n, .int .u64 (x.h.bits : Nat), .string x.h.text, .slice a1 x.h.keys.length c1, .slice a2 x.items.len c2] ∧ ValS ok w x a1 c1 a2 c2 := by
 obtain ⟨vk, vi, rfl, h1, h2⟩ := h
 obtain ⟨a1, c1, rfl⟩ := h1.cases
 obtain ⟨a2, c2, rfl, -⟩ := id h2
 exact ⟨a1, c1, a2, c2, rfl, h1, h2⟩
def wrongP (n : Nat) (p : Int) : List PanicEntry := [{ v := .iface 73 (.agg #[.int .i64 (n : Nat), .int .i64 p]), recovered := false }]
def SgP (r : Except Nat Va) (pos : Int) (w : World) (e : Ending) (w' : World) : Prop := Below w.heap.size w w' ∧ match r with
 | .ok x => ∃ a1 c1 a2 c2, e = .returned (.agg #[.int .u8 (x.h.kind : Nat), .bool x.h.b, .int .i64 x.h.n, .int .u64 (x.h.bits : Nat), .string x.h.text, .slice a1 x.h.keys.length c1, .slice a2 x.items.len c2]) ∧ ValS (Nu w.heap.size w') w' x a1 c1 a2 c2 ∧ Va.sm x
 | .error n => e = .panicked (wrongP n pos)
set_option maxRecDepth 100000 in
set_option maxHeartbeats 40000000 in
theorem sget_calls (dot root : Va) (h : Hd) (hsd : Va.sm dot) (hsr : Va.sm root) (hln : h.names.length ≤ 140737488351232) (ok : Nat → Prop) (a1 a2 a3 a4 an ak ae : Option Addr) (c1 c2 c3 c4 cn nk ck ne ce : Nat) (w : World)
 (hd : ValS ok w dot a1 c1 a2 c2) (hr : ValS ok w root a3 c3 a4 c4) (hn : Strs ok w (.slice an h.names.length cn) h.names) :
 Calls Tryz.prog 130 #[.agg #[.int .u8 (dot.h.kind : Nat), .bool dot.h.b, .int .i64 dot.h.n, .int .u64 (dot.h.bits : Nat), .string dot.h.text, .slice a1 dot.h.keys.length c1, .slice a2 dot.items.len c2, .int .u8 (root.h.kind : Nat), .bool root.h.b, .int .i64 root.h.n, .int .u64 (root.h.bits : Nat), .string root.h.text, .slice a3 root.h.keys.length c3, .slice a4 root.items.len c4],
  .agg #[.int .u8 (h.kind : Nat), .int .i64 h.pos, .string h.text, .bool h.root, .slice an h.names.length cn, .string h.name, .slice ak nk ck, .slice ae ne ce]] w (SgP (getF h.names (if h.root then root else dot)) h.pos w) := by
 have GC : Hid (∀ W, Below w.heap.size w W → Calls Tryz.prog 25 #[.agg #[.int .u8 (dot.h.kind : Nat), .bool dot.h.b, .int .i64 dot.h.n, .int .u64 (dot.h.bits : Nat), .string dot.h.text, .slice a1 dot.h.keys.length c1, .slice a2 dot.items.len c2], .agg #[.int .u8 (root.h.kind : Nat), .bool root.h.b, .int .i64 root.h.n, .int .u64 (root.h.bits : Nat), .string root.h.text, .slice a3 root.h.keys.length c3, .slice a4 root.items.len c4], .agg #[.bool h.root, .slice an h.names.length cn]] W (GetR (getF h.names (if h.root then root else dot)) W)) := fun W hW =>
  get_calls dot root h.root h.names hsd hsr hln (fun b => ok b ∧ b < w.heap.size) _ _ _ W (hd.lt.kept (fun b hb => hW.block b hb.2)).val (hr.lt.kept (fun b hb => hW.block b hb.2)).val (hn.lt.kept (fun b hb => hW.block b hb.2))
 have HE : Hid (∀ n, getF h.names (if h.root then root else dot) = .error n → n = 200 ∨ n = 201) := fun n hn => getF_err _ _ _ hn
 clear hd hr hn hsd hsr
 generalize hG : getF h.names (if h.root then root else dot) = G at *
 clear hG
 have HB0 : Hid (Below w.heap.size w (((w.alloc (.cells #[.int .u8 (dot.h.kind : Nat), .bool dot.h.b, .int .i64 dot.h.n, .int .u64 (dot.h.bits : Nat), .string dot.h.text, .slice a1 dot.h.keys.length c1, .slice a2 dot.items.len c2, .int .u8 (root.h.kind : Nat), .bool root.h.b, .int .i64 root.h.n, .int .u64 (root.h.bits : Nat), .string root.h.text, .slice a3 root.h.keys.length c3, .slice a4 root.items.len c4] 115)).alloc (.cells #[.int .u8 (h.kind : Nat), .int .i64 h.pos, .string h.text, .bool h.root, .slice an h.names.length cn, .string h.name, .slice ak nk ck, .slice ae ne ce] 56)).alloc (.cells zeroCells 31))) := (((Below.refl _ w).alloc (Nat.le_refl _) _).alloc (by simp) _).alloc (by simp; omega) _
 have HS0 : Hid ((((w.alloc (.cells #[.int .u8 (dot.h.kind : Nat), .bool dot.h.b, .int .i64 dot.h.n, .int .u64 (dot.h.bits : Nat), .string dot.h.text, .slice a1 dot.h.keys.length c1, .slice a2 dot.items.len c2, .int .u8 (root.h.kind : Nat), .bool root.h.b, .int .i64 root.h.n, .int .u64 (root.h.bits : Nat), .string root.h.text, .slice a3 root.h.keys.length c3, .slice a4 root.items.len c4] 115)).alloc (.cells #[.int .u8 (h.kind : Nat), .int .i64 h.pos, .string h.text, .bool h.root, .slice an h.names.length cn, .string h.name, .slice ak nk ck, .slice ae ne ce] 56)).alloc (.cells zeroCells 31)).heap.size = w.heap.size + 3) := by unfold Hid; simp
 have HT : Hid (∀ W0, (((w.alloc (.cells #[.int .u8 (dot.h.kind : Nat), .bool dot.h.b, .int .i64 dot.h.n, .int .u64 (dot.h.bits : Nat), .string dot.h.text, .slice a1 dot.h.keys.length c1, .slice a2 dot.items.len c2, .int .u8 (root.h.kind : Nat), .bool root.h.b, .int .i64 root.h.n, .int .u64 (root.h.bits : Nat), .string root.h.text, .slice a3 root.h.keys.length c3, .slice a4 root.items.len c4] 115)).alloc (.cells #[.int .u8 (h.kind : Nat), .int .i64 h.pos, .string h.text, .bool h.root, .slice an h.names.length cn, .string h.name, .slice ak nk ck, .slice ae ne ce] 56)).alloc (.cells zeroCells 31)) = W0 → W0.heap[w.heap.size + 1]? = some (.cells #[.int .u8 (h.kind : Nat), .int .i64 h.pos, .string h.text, .bool h.root, .slice an h.names.length cn, .string h.name, .slice ak nk ck, .slice ae ne ce] 56 (0, 0)) ∧ W0.heap[w.heap.size + 2]? = some (.cells zeroCells 31 (0, 0))) := by
  rintro W0 rfl
  have s1 : (w.alloc (.cells #[.int .u8 (dot.h.kind : Nat), .bool dot.h.b, .int .i64 dot.h.n, .int .u64 (dot.h.bits : Nat), .string dot.h.text, .slice a1 dot.h.keys.length c1, .slice a2 dot.items.len c2, .int .u8 (root.h.kind : Nat), .bool root.h.b, .int .i64 root.h.n, .int .u64 (root.h.bits : Nat), .string root.h.text, .slice a3 root.h.keys.length c3, .slice a4 root.items.len c4] 115 (0, 0))).heap.size = w.heap.size + 1 := by simp
  have s2 : ((w.alloc (.cells #[.int .u8 (dot.h.kind : Nat), .bool dot.h.b, .int .i64 dot.h.n, .int .u64 (dot.h.bits : Nat), .string dot.h.text, .slice a1 dot.h.keys.length c1, .slice a2 dot.items.len c2, .int .u8 (root.h.kind : Nat), .bool root.h.b, .int .i64 root.h.n, .int .u64 (root.h.bits : Nat), .string root.h.text, .slice a3 root.h.keys.length c3, .slice a4 root.items.len c4] 115 (0, 0))).alloc (.cells #[.int .u8 (h.kind : Nat), .int .i64 h.pos, .string h.text, .bool h.root, .slice an h.names.length cn, .string h.name, .slice ak nk ck, .slice ae ne ce] 56 (0, 0))).heap.size = w.heap.size + 2 := by simp
  refine ⟨?_, ?_⟩
  · rw [Below.heap_alloc _ _ _ (by omega)]
    have := heap_alloc_new (w.alloc (.cells #[.int .u8 (dot.h.kind : Nat), .bool dot.h.b, .int .i64 dot.h.n, .int .u64 (dot.h.bits : Nat), .string dot.h.text, .slice a1 dot.h.keys.length c1, .slice a2 dot.items.len c2, .int .u8 (root.h.kind : Nat), .bool root.h.b, .int .i64 root.h.n, .int .u64 (root.h.bits : Nat), .string root.h.text, .slice a3 root.h.keys.length c3, .slice a4 root.items.len c4] 115 (0, 0))) (.cells #[.int .u8 (h.kind : Nat), .int .i64 h.pos, .string h.text, .bool h.root, .slice an h.names.length cn, .string h.name, .slice ak nk ck, .slice ae ne ce] 56 (0, 0)); rwa [s1] at this
  · have := heap_alloc_new ((w.alloc (.cells #[.int .u8 (dot.h.kind : Nat), .bool dot.h.b, .int .i64 dot.h.n, .int .u64 (dot.h.bits : Nat), .string dot.h.text, .slice a1 dot.h.keys.length c1, .slice a2 dot.items.len c2, .int .u8 (root.h.kind : Nat), .bool root.h.b, .int .i64 root.h.n, .int .u64 (root.h.bits : Nat), .string root.h.text, .slice a3 root.h.keys.length c3, .slice a4 root.items.len c4] 115 (0, 0))).alloc (.cells #[.int .u8 (h.kind : Nat), .int .i64 h.pos, .string h.text, .bool h.root, .slice an h.names.length cn, .string h.name, .slice ak nk ck, .slice ae ne ce] 56 (0, 0))) (.cells zeroCells 31 (0, 0)); rwa [s2] at this
 unfold zeroCells at HB0 HS0 HT
 go_enter Tryz.func130, Tryz.ntmps130
 go_upto_region 1 with (fail)
 simp only [Nat.add_assoc, Nat.reduceAdd]
 go_wp2_with fail
 generalize hWW : World.alloc (World.alloc (World.alloc w _) _) _ = W0 at *
 obtain ⟨hp0, hr0⟩ := HT.out W0 rfl
 clear hWW HT
 have hz0 : W0.heap.size = w.heap.size + 3 := HS0.out
 refine (GC.out _ HB0.out).mono ?_
 rintro e w1 ⟨hb1, hres⟩
 have hp1 := (hb1.block _ (by omega)).trans hp0
 have hr1 := (hb1.block _ (by omega)).trans hr0
 have HP1 := Lib.hid hp1
 have HR1 := Lib.hid hr1
 have HB1 := Lib.hid hb1
 have hl1 : w.heap.size + 3 ≤ w1.heap.size := by have := hb1.size; omega
 clear hp0 hr0 hp1 hr1 hb1
 cases G with
 | error n =>
   obtain rfl := hres
   have hn0 : ¬ (n : Int) = 0 := by have := HE.out n rfl; omega
   have hn2 : ((n : Int) == 0) = false := beq_eq_false_iff_ne.2 hn0
   have hn1 : ((n : Int) != 0) = true := by simp only [bne, hn2]; rfl
   have hn3 : ¬ n = 0 := by omega
   have e1 : w.heap.size + 1 < w1.heap.size := by omega
   have p1 : w1.cell? ⟨w.heap.size + 1, 1, none⟩ = some (.int .i64 h.pos) := by rw [cell_of_heap' HP1.out]; rfl
   go_wp2_with fail
   exact ⟨rfl, (HB0.out.trans (HB1.out.mono (by omega))).alloc (by omega) _, rfl⟩
 | ok x =>
   obtain ⟨v', rfl, hv, hsx⟩ := hres
   obtain ⟨b1, d1, b2, d2, rfl, hvs⟩ := ValM.vals hv
   have HVS := Lib.hid hvs
   have HSX := Lib.hid hsx
   clear hv hvs hsx
   have z0 : w1.cell? ⟨w.heap.size + 2, 0, none⟩ = some (.int .u8 0) := by rw [cell_of_heap' HR1.out]; rfl
   have z1 : w1.cell? ⟨w.heap.size + 2, 1, none⟩ = some (.bool false) := by rw [cell_of_heap' HR1.out]; rfl
   have z2 : w1.cell? ⟨w.heap.size + 2, 2, none⟩ = some (.int .i64 0) := by rw [cell_of_heap' HR1.out]; rfl
   have z3 : w1.cell? ⟨w.heap.size + 2, 3, none⟩ = some (.int .u64 0) := by rw [cell_of_heap' HR1.out]; rfl
   have z4 : w1.cell? ⟨w.heap.size + 2, 4, none⟩ = some (.string ⟨#[]⟩) := by rw [cell_of_heap' HR1.out]; rfl
   have z5 : w1.cell? ⟨w.heap.size + 2, 5, none⟩ = some (.slice none 0 0) := by rw [cell_of_heap' HR1.out]; rfl
   have z6 : w1.cell? ⟨w.heap.size + 2, 6, none⟩ = some (.slice none 0 0) := by rw [cell_of_heap' HR1.out]; rfl
   have zf := frozen_cells HR1.out
   have e1 : w.heap.size + 2 < w1.heap.size := by omega
   go_wp2_with fail
   have HST := Lib.hid (set7 (p := 0) (.int .u8 (x.h.kind : Nat)) (.bool x.h.b) (.int .i64 x.h.n) (.int .u64 (x.h.bits : Nat)) (.string x.h.text) (.slice b1 x.h.keys.length d1) (.slice b2 x.items.len d2) z0 z1 z2 z3 z4 z5 z6)
   simp only [Nat.zero_add] at HST
   generalize hWW : World.setCell _ _ _ = W5 at *
   clear hWW
   have hka : Kept (Nu W0.heap.size w1) w1 (W5.alloc (.cells #[.int .u8 (x.h.kind : Nat), .bool x.h.b, .int .i64 x.h.n, .int .u64 (x.h.bits : Nat), .string x.h.text, .slice b1 x.h.keys.length d1, .slice b2 x.items.len d2] 31)) := fun b hb => (Below.heap_alloc _ _ _ (by rw [HST.out.size]; exact hb.2.1)).trans (HST.out.oth b (by have := hb.1; omega))
   have hkk : ∀ b, Nu W0.heap.size w1 b → Nu w.heap.size (W5.alloc (.cells #[.int .u8 (x.h.kind : Nat), .bool x.h.b, .int .i64 x.h.n, .int .u64 (x.h.bits : Nat), .string x.h.text, .slice b1 x.h.keys.length d1, .slice b2 x.items.len d2] 31)) b := fun b hb => ⟨by have := hb.1; omega, by simp [HST.out.size]; have := hb.2.1; omega, hb.2.2.same (hka b hb)⟩
   exact ⟨rfl, _, results_val rfl rfl (fun j u hj => Lib.cell?_alloc_some _ (HST.out.is j u hj)), ((HB0.out.trans (HB1.out.mono (by omega))).trans (HST.out.below (by omega))).alloc (by rw [HST.out.size]; omega) _, b1, d1, b2, d2, rfl, (HVS.out.kept hka).mono hkk, HSX.out⟩
def restC (mb f c l : Nat) : Obj := .cells #[.map (some mb), .int .i64 (f : Nat), .int .i64 (c : Nat), .func (.yield l) #[] #[]] 118 (0, 0)
def BuP (mb c l rb : Nat) (pos : Int) (w : World) : Nat → Ending → World → Prop
 | 0, e, w' => e = .panicked (wrongP 202 pos) ∧ Below w.heap.size w w'
 | f + 1, e, w' => e = .returned (.tuple #[]) ∧ w'.heap[rb]? = some (restC mb f c l) ∧ Off (fun b => b < w.heap.size ∧ b ≠ rb) w w'
set_option maxRecDepth 100000 in
set_option maxHeartbeats 40000000 in
theorem burn_calls (dot root : Va) (h : Hd) (deep rb mb c l f : Nat) (hf : f ≤ 1000000) (a1 a2 a3 a4 an ak ae : Option Addr) (c1 c2 c3 c4 cn nk ck ne ce : Nat) (w : World) (hrb : w.heap[rb]? = some (restC mb f c l)) :
 Calls Tryz.prog 129 #[.agg #[.int .u8 (dot.h.kind : Nat), .bool dot.h.b, .int .i64 dot.h.n, .int .u64 (dot.h.bits : Nat), .string dot.h.text, .slice a1 dot.h.keys.length c1, .slice a2 dot.items.len c2, .int .u8 (root.h.kind : Nat), .bool root.h.b, .int .i64 root.h.n, .int .u64 (root.h.bits : Nat), .string root.h.text, .slice a3 root.h.keys.length c3, .slice a4 root.items.len c4, .int .i64 (deep : Nat), .pointer (some ⟨rb, 0, none⟩)], .agg #[.int .u8 (h.kind : Nat), .int .i64 h.pos, .string h.text, .bool h.root, .slice an h.names.length cn, .string h.name, .slice ak nk ck, .slice ae ne ce]] w (BuP mb c l rb h.pos w f) := by
 have hl := lt_of_block hrb
 have HR := Lib.hid hrb
 have HB0 : Hid (Below w.heap.size w ((w.alloc (.cells #[.int .u8 (dot.h.kind : Nat), .bool dot.h.b, .int .i64 dot.h.n, .int .u64 (dot.h.bits : Nat), .string dot.h.text, .slice a1 dot.h.keys.length c1, .slice a2 dot.items.len c2, .int .u8 (root.h.kind : Nat), .bool root.h.b, .int .i64 root.h.n, .int .u64 (root.h.bits : Nat), .string root.h.text, .slice a3 root.h.keys.length c3, .slice a4 root.items.len c4, .int .i64 (deep : Nat), .pointer (some ⟨rb, 0, none⟩)] 120)).alloc (.cells #[.int .u8 (h.kind : Nat), .int .i64 h.pos, .string h.text, .bool h.root, .slice an h.names.length cn, .string h.name, .slice ak nk ck, .slice ae ne ce] 56))) := (((Below.refl _ w).alloc (Nat.le_refl _) _).alloc (by simp) _)
 have HS0 : Hid (((w.alloc (.cells #[.int .u8 (dot.h.kind : Nat), .bool dot.h.b, .int .i64 dot.h.n, .int .u64 (dot.h.bits : Nat), .string dot.h.text, .slice a1 dot.h.keys.length c1, .slice a2 dot.items.len c2, .int .u8 (root.h.kind : Nat), .bool root.h.b, .int .i64 root.h.n, .int .u64 (root.h.bits : Nat), .string root.h.text, .slice a3 root.h.keys.length c3, .slice a4 root.items.len c4, .int .i64 (deep : Nat), .pointer (some ⟨rb, 0, none⟩)] 120)).alloc (.cells #[.int .u8 (h.kind : Nat), .int .i64 h.pos, .string h.text, .bool h.root, .slice an h.names.length cn, .string h.name, .slice ak nk ck, .slice ae ne ce] 56)).heap.size = w.heap.size + 2) := by unfold Hid; simp
 have HT : Hid (∀ W0, ((w.alloc (.cells #[.int .u8 (dot.h.kind : Nat), .bool dot.h.b, .int .i64 dot.h.n, .int .u64 (dot.h.bits : Nat), .string dot.h.text, .slice a1 dot.h.keys.length c1, .slice a2 dot.items.len c2, .int .u8 (root.h.kind : Nat), .bool root.h.b, .int .i64 root.h.n, .int .u64 (root.h.bits : Nat), .string root.h.text, .slice a3 root.h.keys.length c3, .slice a4 root.items.len c4, .int .i64 (deep : Nat), .pointer (some ⟨rb, 0, none⟩)] 120)).alloc (.cells #[.int .u8 (h.kind : Nat), .int .i64 h.pos, .string h.text, .bool h.root, .slice an h.names.length cn, .string h.name, .slice ak nk ck, .slice ae ne ce] 56)) = W0 → W0.heap[w.heap.size]? = some (.cells #[.int .u8 (dot.h.kind : Nat), .bool dot.h.b, .int .i64 dot.h.n, .int .u64 (dot.h.bits : Nat), .string dot.h.text, .slice a1 dot.h.keys.length c1, .slice a2 dot.items.len c2, .int .u8 (root.h.kind : Nat), .bool root.h.b, .int .i64 root.h.n, .int .u64 (root.h.bits : Nat), .string root.h.text, .slice a3 root.h.keys.length c3, .slice a4 root.items.len c4, .int .i64 (deep : Nat), .pointer (some ⟨rb, 0, none⟩)] 120 (0, 0)) ∧ W0.heap[w.heap.size + 1]? = some (.cells #[.int .u8 (h.kind : Nat), .int .i64 h.pos, .string h.text, .bool h.root, .slice an h.names.length cn, .string h.name, .slice ak nk ck, .slice ae ne ce] 56 (0, 0))) := by
  rintro W0 rfl
  have s1 : (w.alloc (.cells #[.int .u8 (dot.h.kind : Nat), .bool dot.h.b, .int .i64 dot.h.n, .int .u64 (dot.h.bits : Nat), .string dot.h.text, .slice a1 dot.h.keys.length c1, .slice a2 dot.items.len c2, .int .u8 (root.h.kind : Nat), .bool root.h.b, .int .i64 root.h.n, .int .u64 (root.h.bits : Nat), .string root.h.text, .slice a3 root.h.keys.length c3, .slice a4 root.items.len c4, .int .i64 (deep : Nat), .pointer (some ⟨rb, 0, none⟩)] 120 (0, 0))).heap.size = w.heap.size + 1 := by simp
  refine ⟨?_, ?_⟩
  · rw [Below.heap_alloc _ _ _ (by omega)]
    exact heap_alloc_new w _
  · skip
    have := heap_alloc_new (w.alloc (.cells #[.int .u8 (dot.h.kind : Nat), .bool dot.h.b, .int .i64 dot.h.n, .int .u64 (dot.h.bits : Nat), .string dot.h.text, .slice a1 dot.h.keys.length c1, .slice a2 dot.items.len c2, .int .u8 (root.h.kind : Nat), .bool root.h.b, .int .i64 root.h.n, .int .u64 (root.h.bits : Nat), .string root.h.text, .slice a3 root.h.keys.length c3, .slice a4 root.items.len c4, .int .i64 (deep : Nat), .pointer (some ⟨rb, 0, none⟩)] 120 (0, 0))) (.cells #[.int .u8 (h.kind : Nat), .int .i64 h.pos, .string h.text, .bool h.root, .slice an h.names.length cn, .string h.name, .slice ak nk ck, .slice ae ne ce] 56 (0, 0)); rwa [s1] at this
 go_enter Tryz.func129, Tryz.ntmps129
 go_upto_region 1 with (fail)
 try simp only [Nat.add_assoc, Nat.reduceAdd]
 generalize hWW : World.alloc (World.alloc w _) _ = W0 at *
 obtain ⟨hr0, hp0⟩ := HT.out W0 rfl
 clear hWW HT
 have HR1 : Hid (W0.heap[rb]? = some (restC mb f c l)) := (HB0.out.block _ hl).trans HR.out
 have r15 : W0.cell? ⟨w.heap.size, 15, none⟩ = some (.pointer (some ⟨rb, 0, none⟩)) := by rw [cell_of_heap' hr0]; rfl
 have p1 : W0.cell? ⟨w.heap.size + 1, 1, none⟩ = some (.int .i64 h.pos) := by rw [cell_of_heap' hp0]; rfl
 have q1 : W0.cell? ⟨rb, 1, none⟩ = some (.int .i64 (f : Nat)) := by rw [cell_of_heap' HR1.out]; rfl
 have qf := frozen_cells HR1.out
 clear hr0 hp0 hrb
 cases f with
 | zero =>
   go_wp2_with fail
   exact ⟨rfl, rfl, HB0.out⟩
 | succ f =>
   have e0 : ¬ ((f + 1 : Nat) : Int) = 0 := by omega
   have e1 : (((f + 1 : Nat) : Int) == 0) = false := beq_eq_false_iff_ne.2 e0
   have e3 : IntKind.i64.wrap (((f + 1 : Nat) : Int) - 1) = (f : Int) := by rw [IntWalk.i64_in _ ⟨by omega, by omega⟩]; omega
   go_wp2_with fail
   go_end0
   refine ⟨rfl, set_cells (j := 1) HR1.out _, HB0.out.os, HB0.out.tape, HB0.out.output, by simp [World.setCell, HS0.out], fun b hb => ?_⟩
   exact (Below.heap_setCell _ _ _ _ (by exact hb.2)).trans (HB0.out.block b hb.1)
end Go.Proofs.YtepcpgdfbaklfaaGreatDoor
