/-
  Laws on a range over a function whose body may panic: a piece of code is walked in one frame of a known function; a round that panics hands its panic on through the iterator; so does the statement. No condition.
-/
/-
  The contract of the iterator that text.Points hands back, where the loop's body may panic. The condition: the bytes take at most 2 to the 60th bytes.
-/
/-
  The contract of tmpl.valid at a source that is not valid: it gives up at the first piece that is no code point's. The condition: the tables read as they were laid.
-/
/-
  The contract of tmpl.Parse at every source of at most 16384 bytes. The condition: the tables read as they were laid; MaxLen holds some number.
-/
/-
  Plain law: a source of which every piece is a code point's is valid. No condition.
-/
/-
  Plain laws: what is read of a source weighs no more than twice the source; the errors' numbers and places. No condition.
-/
import Derived.RangeFuncLeaves
import Derived.RangeFuncFrom
import Derived.Test.YtdgcdjpjnhlihaaGreatDoorMgLib
import Derived.Test.YtdgcdjpjnhlihaaGreatDoorMgTpg
import Derived.Test.YtdgcdjpjnhlihaaGreatDoorMgTrq
import Derived.Test.YtdgcdjpjnhlihaaGreatDoorMgTg1
set_option linter.unusedVariables false
set_option linter.unusedSimpArgs false
namespace Go.Proofs.YtdgcdjpjnhlihaaGreatDoor
open Go Go.RowKit
variable {P : Program} {b : Frame} {n : Nat} {Q : Exit → Act → World → Prop} {a : Act} {w : World}

theorem one_wide {m m' : Machine} (h : step P m = .next m') : StepsIn (Machine.fenced P Fence.wide) P m m' := .one (fenced_wide _ _) h
/-- A piece of code, walked in one frame. -/
def WpAt (b : Frame) (P : Program) (c : Code) (Q : Exit → Act → World → Prop) (a : Act) (w : World) : Prop :=
  ∀ (k : List Item) (cs : List Frame), ∃ e a' w', Q e a' w' ∧ ArrivesIn (Machine.fenced P Fence.wide) P (lone (b.atR a (.code c :: k)) cs w) b k cs e a' w'
theorem WpAt.of {c : Code} (hb : b.roundOf = none) (h : c.wpIn Fence.wide n P Q a w) : WpAt b P c Q a w := fun k cs => h b k cs hb trivial (room_wide _)
theorem WpAt.seq {x y : Code} (n : Nat) (hb : b.roundOf = none) (h : ∀ K : Act → World → Prop, (∀ a w, WpAt b P y Q a w → K a w) → x.wpIn Fence.wide n P (Exit.then K Q) a w) : WpAt b P (.seq x y) Q a w := by
  intro k cs
  obtain ⟨e, a₁, w₁, hq, ha⟩ := h _ (fun _ _ h => h) b (.code y :: k) cs hb trivial (room_wide _)
  have s := one_wide (stepR_seq (P := P) (b := b) (a := a) (k := k) (cs := cs) (w := w) (x := x) (y := y))
  have ps : ∀ e, e ≠ .normal → ArrivesIn (Machine.fenced P Fence.wide) P (lone (b.atR a (.code x :: .code y :: k)) cs w) b (.code y :: k) cs e a₁ w₁ → ArrivesIn (Machine.fenced P Fence.wide) P (lone (b.atR a (.code (.seq x y) :: k)) cs w) b k cs e a₁ w₁ :=
    fun e he hh => .of_steps s (.pass (x := .code y) rfl (fun _ _ => .inl he) hh)
  cases e with
  | normal =>
    obtain ⟨e₂, a₂, w₂, hq₂, h₂⟩ := hq k cs
    exact ⟨e₂, a₂, w₂, hq₂, .of_steps (StepsIn.trans s ha) h₂⟩
  | exit id => exact ⟨_, _, _, hq, ps _ (by simp) ha⟩
  | goto l => exact ⟨_, _, _, hq, ps _ (by simp) ha⟩
  | ret => exact ⟨_, _, _, hq, ps _ (by simp) ha⟩
  | panic ch => exact ⟨_, _, _, hq, ps _ (by simp) ha⟩
  | outgrown => exact ⟨_, _, _, hq, ps _ (by simp) ha⟩
/-- Off its end, or by a panic. -/
def onlyNP (Q : Exit → Act → World → Prop) : Exit → Act → World → Prop
  | .normal, a, w => Q .normal a w
  | .panic ch, a, w => Q (.panic ch) a w
  | _, _, _ => False
theorem WpAt.block {id : Nat} {c : Code} (h : WpAt b P c (onlyNP Q) a w) : WpAt b P (.block id c) Q a w := by
  intro k cs
  obtain ⟨e, a₁, w₁, hq, ha⟩ := h (.inBlock id :: k) cs
  have s := one_wide (stepR_block (P := P) (b := b) (a := a) (k := k) (cs := cs) (w := w) (id := id) (c := c))
  cases e with
  | normal => exact ⟨.normal, a₁, w₁, hq, StepsIn.trans s (StepsIn.trans ha (one_wide stepR_inBlock))⟩
  | panic ch => exact ⟨.panic ch, a₁, w₁, hq, .of_steps s ha⟩
  | exit id => exact hq.elim
  | goto l => exact hq.elim
  | ret => exact hq.elim
  | outgrown => exact hq.elim
/-- The record of a range over a function, and the mark. -/
abbrev recOf (b : Frame) (a : Act) (w : World) (ps : Array Tmp) (assign body : Code) (st : LoopState) : Loop := { state := st, pending := none, fn := b.fn, tmps := a.tmps, params := ps, assign, body, defers := w.heap.size }
abbrev marked (a : Act) (w : World) : Act := { a with defers := { target := .collected w.heap.size, args := #[] } :: a.defers }
theorem WpAt.rangeFunc {g : Operand} {ps : Array Tmp} {assign body : Code} {gf : Nat} {lb : Array Value} (hb : b.roundOf = none) (hg : a.eval g = .func (.func gf) #[] lb) (eg : ∀ args w, (callFunc gf args).run P w = .ok (.enter gf args) w)
    (h : CallsIn Fence.wide n P gf (#[.func (.yield (w.heap.size + 1)) #[] #[]] ++ lb) ((w.alloc (.deferred (some []))).alloc (.loop (recOf b a w ps assign body .ready))) fun e w₃ => match e with
      | .returned _ => ∃ w₄, (Instr.endLoop (w.heap.size + 1)).run P w₃ = .ok none w₄ ∧ Q .normal (marked a w) w₄
      | .panicked ch => Q (.panic ch) (marked a w) w₃
      | .outgrown => False) : WpAt b P (.rangeFunc g ps assign body) Q a w := by
  intro k cs
  have he : (Instr.enterLoop b.fn a.tmps ps assign body b.roundOf).run P w = .ok (w.heap.size + 1, [{ target := .collected w.heap.size, args := #[] }]) ((w.alloc (.deferred (some []))).alloc (.loop (recOf b a w ps assign body .ready))) := by
    rw [hb]; exact run_enterLoop_outer _ _ _ _ _
  have s1 := one_wide (stepR_rangeFunc (P := P) (b := b) (a := a) (k := k) (cs := cs) (w := w) (g := g) (ps := ps) (assign := assign) (body := body)
    (d := { target := .fn (.func gf) lb, args := #[.func (.yield (w.heap.size + 1)) #[] #[]] }) (f := gf) (args := #[.func (.yield (w.heap.size + 1)) #[] #[]] ++ lb) (w₁' := (w.alloc (.deferred (some []))).alloc (.loop (recOf b a w ps assign body .ready))) (w₂ := (w.alloc (.deferred (some []))).alloc (.loop (recOf b a w ps assign body .ready))) he (by
      simp only [resolve, hg]
      simp [go_sem]) (by simp [invoke, go_sem, eg]))
  obtain ⟨e, w₃, fr, hR, hs, hfn, hl⟩ := h.2 (b.atR (marked a w) (.inRangeFunc (w.heap.size + 1) :: k) :: cs) (room_wide _)
  cases e with
  | outgrown => exact hR.elim
  | returned v =>
    obtain ⟨w₄, hend, hq⟩ := hR
    refine ⟨.normal, _, w₄, hq, StepsIn.trans s1 (StepsIn.trans hs (StepsIn.trans (one_wide (step_leave_returned hl)) ?_))⟩
    rw [finish_atR_inRangeFunc]
    exact one_wide (stepR_endRangeFunc hend)
  | panicked chain =>
    refine ⟨.panic chain, _, w₃, hR, .inRangeFunc (w.heap.size + 1) :: k, StepsIn.trans s1 (StepsIn.trans hs ?_)⟩
    have := step_leave_panicked (c := b.atR (marked a w) (.inRangeFunc (w.heap.size + 1) :: k)) (cs := cs) hl
    rw [Frame.raise_atR] at this
    exact one_wide this
/-- A function's contract, its body walked in the function's own frame. -/
theorem calls_at {f : FuncId} {fn : Func} {c : Code} {args : Array Value} {R : Ending → World → Prop} (n : Nat) (hf : P.funcs[f]? = some fn) (hbd : fn.body = some c)
    (h : ∀ b : Frame, b.fn = f → b.roundOf = none → WpAt b P c (bodyPostM Fence.wide n P fn R) { tmps := args ++ Array.replicate (fn.ntmps - args.size) undef, defers := [] } w) : Calls P f args w R := by
  refine (callsIn_wide (n := n)).1 ⟨trivial, fun cs hr => ?_⟩
  obtain ⟨b, hbe⟩ : ∃ b : Frame, b = { (default : Frame) with fn := f, kind := .normal, roundOf := none } := ⟨_, rfl⟩
  have henter : Frame.enter P f args .normal = b.atR { tmps := args ++ Array.replicate (fn.ntmps - args.size) undef, defers := [] } [.code c] := by
    rw [hbe]; simp [Frame.enter, Frame.atR, hf, hbd]
  have hbf : b.fn = f := by rw [hbe]
  have hbr : b.roundOf = none := by rw [hbe]
  have hbk : b.kind = .normal := by rw [hbe]
  obtain ⟨e, a', w', hq, harr⟩ := h b hbf hbr [] cs
  rw [← henter] at harr
  have go : ∀ (u : FrameMode) (todo : List Item), LeavesInM Fence.wide n P fn a'.tmps R a'.defers u w' → StepsIn (Machine.fenced P Fence.wide) P (lone (Frame.enter P f args .normal) cs w) (lone { b.atR a' todo with mode := u } cs w') →
      ∃ e w'' fr, R e w'' ∧ ComesIn (Machine.fenced P Fence.wide) P (lone (Frame.enter P f args .normal) cs w) (lone fr cs w'') e ∧ fr.fn = f ∧ fr.leaving P w'' e := by
    intro u todo hL hs
    obtain ⟨e', w'', fr', hR, hs', hfn, hl⟩ := leaves_stepsInM a'.defers u w' { b.atR a' todo with mode := u } cs rfl rfl rfl (by show P.funcs[b.fn]? = _; rw [hbf]; exact hf) hbk trivial hr hL
    exact ⟨e', w'', fr', hR, ComesIn.of_steps hs hs', hfn.trans hbf, hl⟩
  cases e with
  | normal => exact go .returning [] hq (StepsIn.trans harr (one_wide (stepR_end hbr)))
  | ret => obtain ⟨todo, hs⟩ := harr.1 hbr; exact go .returning todo hq hs
  | panic chain => obtain ⟨todo, hs⟩ := harr; exact go (.panicking chain) todo hq hs
  | exit id => exact hq.elim
  | goto l => exact hq.elim
  | outgrown => exact ⟨.outgrown, w', b, hq, harr.resolve_left (by rw [hbk]; simp), hbf, trivial⟩
/-- What is asked at the end of a round that is left off its end, or by a panic. -/
def pPost (P : Program) (l : Nat) (R : Ending → World → Prop) : Exit → Act → World → Prop
  | .normal, _, w => ∃ v w', (Instr.endRound l none).run P w = .ok v w' ∧ R (.returned v) w'
  | .panic ch, a, w => a.defers = [] ∧ R (.panicked ch) w
  | _, _, _ => False
theorem round_at {l : Nat} {f : FuncId} {fn : Func} {tmps : Array Value} {assign body : Code} {R : Ending → World → Prop} (hf : P.funcs[f]? = some fn)
    (h : assign.wpIn (Fence.wide.inRound l) n P (Exit.then (fun a₁ w₁ => ∃ w₂, (Instr.beginRound l).run P w₁ = .ok () w₂ ∧ body.wpIn (Fence.wide.inRound l) n P (pPost P l R) a₁ w₂) (fun _ _ _ => False)) { tmps := tmps, defers := [] } w) :
    RoundIn Fence.wide n P l f tmps assign body w R := by
  refine ⟨trivial, fun c cs hr => ?_⟩
  have hr' : (Fence.wide.inRound l).room ((c :: cs).length + 1 + n) := hr
  obtain ⟨b, hbe⟩ : ∃ b : Frame, b = { (default : Frame) with fn := f, kind := .normal, roundOf := some l } := ⟨_, rfl⟩
  have hb0 : Frame.round l f tmps assign body .normal = b.atR { tmps := tmps, defers := [] } [.code assign, .beginRound, .code body] := by
    rw [hbe]; simp [Frame.round, Frame.atR]
  have hbf : b.fn = f := by rw [hbe]
  have hbr : b.roundOf = some l := by rw [hbe]
  have hbk : b.kind = .normal := by rw [hbe]
  obtain ⟨e, a₁, w₁, hq, harr⟩ := h b [.beginRound, .code body] (c :: cs) hbr trivial hr'
  rw [← hb0] at harr
  cases e with
  | normal =>
    obtain ⟨w₂, hbg, hbody⟩ := hq
    obtain ⟨e₂, a₂, w₃, hq₂, h₂⟩ := hbody b [] (c :: cs) hbr trivial hr'
    have s : StepsIn (Machine.fenced P Fence.wide) P (lone (Frame.round l f tmps assign body .normal) (c :: cs) w) (lone (b.atR a₁ [.code body]) (c :: cs) w₂) := StepsIn.trans harr (one_wide (stepR_beginRound hbr hbg))
    cases e₂ with
    | normal =>
      obtain ⟨v, w₄, hend, hR⟩ := hq₂
      exact ⟨.returned v, w₄, hR, StepsIn.trans s (StepsIn.trans h₂ (one_wide (stepR_round_end hbr hbk hend)))⟩
    | panic ch =>
      obtain ⟨hd, hR⟩ := hq₂
      obtain ⟨todo, hs⟩ := h₂
      refine ⟨.panicked ch, w₃, hR, StepsIn.trans s (StepsIn.trans hs (one_wide (step_leave_panicked ⟨rfl, hd, fn, ?_⟩)))⟩
      show P.funcs[b.fn]? = _
      rw [hbf]; exact hf
    | exit id => exact hq₂.elim
    | goto l => exact hq₂.elim
    | ret => exact hq₂.elim
    | outgrown => exact hq₂.elim
  | exit id => exact hq.elim
  | goto l => exact hq.elim
  | ret => exact hq.elim
  | panic ch => exact hq.elim
  | outgrown => exact hq.elim
/-- What is asked at the end of a loop's body that is left off its end, or by a panic. -/
def npPost {α : Type} (Kp : World → World → Prop) (I : List α → World → Prop) (Ip : List PanicEntry → World → Prop) (pre : List α) (W : World) : Exit → Act → World → Prop
  | .normal, _, W' => KeepsOthers W W' ∧ Kp W W' ∧ I pre W'
  | .panic ch, a, W' => a.defers = [] ∧ KeepsOthers W W' ∧ Ip ch W'
  | _, _, _ => False
/-- THE STATEMENT, where the body may panic and the iterator hands that on. -/
theorem WpAt.rangeP {α : Type} {g : Operand} {ps : Array Tmp} {assign body : Code} {gf : Nat} {lb : Array Value} {fn : Func} (n : Nat) (hb : b.roundOf = none) (hfn : P.funcs[b.fn]? = some fn) (hg : a.eval g = .func (.func gf) #[] lb) (eg : ∀ args w, (callFunc gf args).run P w = .ok (.enter gf args) w)
    {encs : α → Array Value} {Kp : World → World → Prop} {xs : List α}
    (hit : ∀ (l : Nat) (J : List α → World → Prop) (Jp : List PanicEntry → World → Prop) (W : World), Below w.heap.size w W → AbidesFrom W.heap.size J →
      (∀ pre x W1, J pre W1 → (∃ t, (pre ++ [x]) ++ t = xs) → YieldAt Fence.wide (n - 1) P l (encs x) W1 fun e W' => (e = .returned (.bool true) ∧ J (pre ++ [x]) W' ∧ Kp W1 W') ∨ (∃ ch, e = .panicked ch ∧ Jp ch W')) → J [] W →
      CallsIn Fence.wide n P gf (#[.func (.yield l) #[] #[]] ++ lb) W fun e W' => (∃ v, e = .returned v ∧ J xs W') ∨ (∃ ch, e = .panicked ch ∧ Jp ch W'))
    (hKt : ∀ {A B C : World}, Kp A B → Kp B C → Kp A C) (hKb : ∀ (W : World) (l : Nat) (o o' : Obj), w.heap.size ≤ l → W.heap[l]? = some o → o.isCells = false → o.isWalk = false → Kp W (W.putObj l o')) (hps : ∀ x, (encs x).size = ps.size)
    (I : List α → World → Prop) (Ip : List PanicEntry → World → Prop) (hI : OwnFrom w.heap.size I) (h0 : I [] w) (a₁ : α → Act)
    (hassign : ∀ (l : Nat) (x : α) (W : World) (K : Act → World → Prop), K (a₁ x) W →
      assign.wpIn (Fence.wide.inRound l) (n - 1) P (Exit.then K (fun _ _ _ => False)) { tmps := (ps.zip (encs x)).foldl (fun t (p, v) => t.setIfInBounds p v) a.tmps, defers := [] } W)
    (hbody : ∀ (l : Nat) (pre : List α) (x : α) (W : World), I pre W → (∃ t, (pre ++ [x]) ++ t = xs) → body.wpIn (Fence.wide.inRound l) (n - 1) P (npPost Kp I Ip (pre ++ [x]) W) (a₁ x) W)
    (hdone : ∀ (D : Nat) (W : World), w.heap.size ≤ D → I xs W → W.heap[D]? = some (.deferred (some [])) → Q .normal { a with defers := { target := .collected D, args := #[] } :: a.defers } W)
    (hpan : ∀ (D : Nat) (ch : List PanicEntry) (W : World), w.heap.size ≤ D → Ip ch W → W.heap[D]? = some (.deferred (some [])) → Q (.panic ch) { a with defers := { target := .collected D, args := #[] } :: a.defers } W) :
    WpAt b P (.rangeFunc g ps assign body) Q a w := by
  refine WpAt.rangeFunc (n := n) hb hg eg ?_
  obtain ⟨rec, hrec⟩ : ∃ rec : LoopState → Loop, rec = fun st => recOf b a w ps assign body st := ⟨_, rfl⟩
  obtain ⟨W1, hW1⟩ : ∃ W1, (w.alloc (.deferred (some []))).alloc (.loop (rec .ready)) = W1 := ⟨_, rfl⟩
  have hL1 : W1.heap[w.heap.size + 1]? = some (.loop (rec .ready)) := by
    rw [← hW1]; have := World.alloc_heap_new (w.alloc (.deferred (some []))) (.loop (rec .ready)); rwa [World.size_alloc] at this
  have hK1 : W1.heap[w.heap.size]? = some (.deferred (some [])) := by
    rw [← hW1]; exact (Below.heap_alloc _ _ _ (by simp)).trans (World.alloc_heap_new w _)
  have hI1 : I [] W1 := by rw [← hW1]; exact hI.alloc _ (hI.alloc _ h0)
  have hb1 : Below w.heap.size w W1 := by
    rw [← hW1]; exact ((Below.refl _ w).alloc (Nat.le_refl _) _).alloc (by simp) _
  have e1 : (w.alloc (.deferred (some []))).alloc (.loop (recOf b a w ps assign body .ready)) = W1 := by rw [← hW1, hrec]
  rw [e1]
  have hs1 : w.heap.size ≤ W1.heap.size := hb1.size
  have hnw : ∀ {A : World} {row : Option Nat}, (∀ r, row = some r → W1.heap.size ≤ r ∧ ∃ o : Obj, A.heap[r]? = some o ∧ o.isWalk = true) → (∀ r, row = some r → w.heap.size ≤ r ∧ ∃ o : Obj, A.heap[r]? = some o ∧ o.isCells = false) :=
    fun hr r e => by obtain ⟨hB, o, ho, hw⟩ := hr r e; exact ⟨by omega, o, ho, Obj.not_cells_of_walk hw⟩
  refine (hit (w.heap.size + 1)
    (fun pre W => I pre W ∧ W.heap[w.heap.size + 1]? = some (.loop (rec .ready)) ∧ W.heap[w.heap.size]? = some (.deferred (some [])))
    (fun ch W => Ip ch W ∧ W.heap[w.heap.size]? = some (.deferred (some []))) W1 hb1
    (fun s A B row hs hg' hr => ⟨hI s A B row hs.1 hg' (hnw hr), (grownBy_keeps hg' (fun r e => (hr r e).2) hs.2.1 rfl).trans hs.2.1, (grownBy_keeps hg' (fun r e => (hr r e).2) hs.2.2 rfl).trans hs.2.2⟩)
    ?_ ⟨hI1, hL1, hK1⟩).mono ?_
  · rintro pre x W ⟨hi, hl, hk⟩ hx
    have hlt : w.heap.size + 1 < W.heap.size := (Array.getElem?_eq_some_iff.1 hl).1
    have hy := run_yield (P := P) (args := encs x) hl (by rw [hrec]; exact hps x)
    rw [hrec] at hy
    refine ⟨b.fn, _, assign, body, hy, round_at hfn (hassign _ x W _ ⟨_, run_beginRound hl (by rw [hrec]), ?_⟩)⟩
    have hl2 : (W.putObj (w.heap.size + 1) (.loop { rec .ready with state := .busy })).heap[w.heap.size + 1]? = some (.loop { rec .ready with state := .busy }) := World.putObj_heap_same hlt
    have hk2 : (W.putObj (w.heap.size + 1) (.loop { rec .ready with state := .busy })).heap[w.heap.size]? = some (.deferred (some [])) := (World.putObj_heap_other (by omega)).trans hk
    have hw2 : Kp W (W.putObj (w.heap.size + 1) (.loop { rec .ready with state := .busy })) := hKb _ _ _ _ (by omega) hl rfl rfl
    refine wpIn_mono (hbody _ pre x _ (hI.putObj _ hi (by omega) hl rfl) hx) ?_
    rintro e a3 W3 hp
    cases e with
    | normal =>
      obtain ⟨hk3, hkp3, hi3⟩ := hp
      have hl3 := hk3.same _ _ hl2 rfl
      have hk4 := hk3.same _ _ hk2 rfl
      have := run_endRound (P := P) none hl3
      refine ⟨_, _, this, .inl ⟨rfl, ⟨hI.putObj _ hi3 (by omega) hl3 rfl, ?_, (World.putObj_heap_other (by omega)).trans hk4⟩, hKt (hKt hw2 hkp3) (hKb _ _ _ _ (by omega) hl3 rfl rfl)⟩⟩
      rw [World.putObj_heap_same (Array.getElem?_eq_some_iff.1 hl3).1, hrec]
      rfl
    | panic ch =>
      obtain ⟨hd, hk3, hi3⟩ := hp
      exact ⟨hd, .inr ⟨ch, rfl, hi3, hk3.same _ _ hk2 rfl⟩⟩
    | exit id => exact hp.elim
    | goto t => exact hp.elim
    | ret => exact hp.elim
    | outgrown => exact hp.elim
  · rintro e W2 (⟨v, rfl, hi, hl, hk⟩ | ⟨ch, rfl, hi, hk⟩)
    · exact ⟨_, by have := run_endLoop (P := P) hl (by rw [hrec]; simp); rw [hrec] at this; exact this, hdone _ _ (Nat.le_refl _) (hI.putObj _ hi (by omega) hl rfl) ((World.putObj_heap_other (by omega)).trans hk)⟩
    · exact hpan _ ch _ (Nat.le_refl _) hi hk
end Go.Proofs.YtdgcdjpjnhlihaaGreatDoor
set_option linter.unusedVariables false
set_option linter.unusedSimpArgs false
namespace Go.Proofs.YtdgcdjpjnhlihaaGreatDoor
open Go.RowKit Go.Shelf

attribute [local go_sem] Oper.semAt_some

set_option maxRecDepth 100000 in
set_option maxHeartbeats 2000000 in
theorem points1_p (n : Nat) (hn : 1 ≤ n) (l Bs : Nat) (s : ByteArray) (hs : s.size ≤ 1152921504606846976) (J : List (Nat × Int) → World → Prop) (Jp : List PanicEntry → World → Prop) (W : World) (hJa : AbidesFrom W.heap.size J)
    (hY : ∀ pre x W1, J pre W1 → (∃ t, (pre ++ [x]) ++ t = pts s.data.toList) → YieldAt Fence.wide (n - 1) Tryz.prog l #[.int .i64 (x.1 : Nat), .int .i32 (clp x.2)] W1 fun e W' =>
      (e = .returned (.bool true) ∧ J (pre ++ [x]) W' ∧ Kp3 Bs W1 W') ∨ (∃ ch, e = .panicked ch ∧ Jp ch W'))
    (hBs : W.heap[Bs]? = some (.cells #[.string s] 9 (0, 0))) (hT : Tabs W) (h0 : J [] W) :
    CallsIn Fence.wide n Tryz.prog 111 #[.func (.yield l) #[] #[], .pointer (some ⟨Bs, 0, none⟩)] W fun e W' =>
      (∃ v, e = .returned v ∧ J (pts s.data.toList) W') ∨ (∃ ch, e = .panicked ch ∧ Jp ch W') := by
  refine callsIn_of_wp Tryz.func111 rfl trivial ?_ rfl
  simp only [Tryz.ntmps111, List.size_toArray, List.length_cons, List.length_nil, Nat.reduceAdd, Nat.reduceSub, Array.replicate_succ, Array.replicate_zero, List.push_toArray, List.append_toArray, List.nil_append, List.cons_append]
  gi_wp2
  gi_loopw [3] (fun i wr => ∃ (at_ : Nat) (pre : List (Nat × Int)), i = .int .i64 at_ ∧ at_ ≤ s.size ∧ J pre wr ∧ wr.heap[Bs]? = some (.cells #[.string s] 9 (0, 0)) ∧ Tabs wr ∧ Hid (pre ++ ptsF s.data.toList.length at_ (s.data.toList.drop at_) = pts s.data.toList)) (fun i _ => s.size - (intOf i).toNat)
  case atStart => exact ⟨0, [], rfl, Nat.zero_le _, h0, hBs, hT, by simp [Hid, pts]⟩
  case round =>
    obtain ⟨at_, pre, rfl, hat, hJ, hbs, hT1, HG⟩ := hrel
    have hc0 : wr.cell? ⟨Bs, 0, none⟩ = some (.string s) := by rw [cell_of_heap' hbs]; rfl
    have hBlt : Bs < wr.heap.size := (Array.getElem?_eq_some_iff.1 hbs).1
    by_cases hlt : at_ < s.size
    · have hne : s.data.toList.drop at_ ≠ [] := by intro e; have := congrArg List.length e; simp at this; omega
      have hr := pc_range _ hne
      have HS := Lib.hid (pts_step s.data.toList at_ (by simpa using hlt))
      have hle : at_ + (pc (s.data.toList.drop at_)).1 ≤ s.size := by have := hr.2.1; simp at this; omega
      have hr1 := hr.1
      have HNX : Hid ((pre ++ [(at_, rn (s.data.toList.drop at_))]) ++ ptsF s.data.toList.length (at_ + (pc (s.data.toList.drop at_)).1) (s.data.toList.drop (at_ + (pc (s.data.toList.drop at_)).1)) = pts s.data.toList) := by
        unfold Hid; rw [← HG.out, HS.out, List.append_assoc]; rfl
      clear hne hr
      obtain ⟨q, hq⟩ : ∃ q, (pc (s.data.toList.drop at_)).1 = q := ⟨_, rfl⟩
      rw [hq] at HNX hle hr1
      gi_wp2_with fail
      refine ⟨trivial, ?_⟩
      refine (callsIn_wide.2 (piece_at s at_ _ hlt hs)).mono ?_
      rw [hq]
      clear HS
      have HQ := Lib.hid hq
      clear hq
      by_cases hok : (pc (s.data.toList.drop at_)).2 = true
      · rw [hok]
        have HO := Lib.hid hok
        clear hok
        rintro e w2 ⟨rfl, hb2⟩
        have hJ2 := hJa _ _ _ none hJ (grown_of_below hb2) (fun r e => by cases e)
        have hT2 := hT1.below hb2
        have hbs2 := (hb2.block Bs hBlt).trans hbs
        have hc2 : w2.cell? ⟨Bs, 0, none⟩ = some (.string s) := by rw [cell_of_heap' hbs2]; rfl
        have hBlt2 : Bs < w2.heap.size := (Array.getElem?_eq_some_iff.1 hbs2).1
        clear hb2 hJ hT1 hbs hc0
        gi_wp2_with fail
        refine ⟨trivial, ?_⟩
        refine (callsIn_wide.2 (rune_at s at_ _ hT2 HO.out)).mono ?_
        rintro e w3 ⟨⟨m, rfl⟩, hb3⟩
        have hJ3 := hJa _ _ _ none hJ2 (grown_of_below hb3) (fun r e => by cases e)
        have hT3 := hT2.below hb3
        have hbs3 := (hb3.block Bs hBlt2).trans hbs2
        clear hb3 hJ2 hT2 hbs2 hc2
        obtain ⟨fn, tmps, assign, body, hy, hR⟩ := hY _ (at_, rn (s.data.toList.drop at_)) _ hJ3 ⟨_, HNX.out⟩
        dsimp only at hy
        rw [clp_rn] at hy
        gi_wp2
        refine hR.mono ?_
        rintro e w4 (⟨rfl, hJ4, hk4⟩ | ⟨ch, rfl, hp⟩)
        · gi_wp2
          go_roundw
          case rel => exact ⟨at_ + q, _, by go_num, hle, hJ4, (hk4 Bs (.inl rfl)).trans hbs3, hT3.kept (hk4 _ (.inr (.inl rfl))) (hk4 _ (.inr (.inr rfl))), HNX⟩
          case measure => simp [intOf]; omega
        · exact ⟨rfl, .inr ⟨ch, rfl, hp⟩⟩
      · have hok' : (pc (s.data.toList.drop at_)).2 = false := by simpa using hok
        rw [hok']
        have HR : Hid (rn (s.data.toList.drop at_) = 65533) := by unfold Hid rn; rw [if_neg hok]
        rw [HR.out] at HNX
        clear hok hok'
        rintro e w3 ⟨rfl, hb3⟩
        have hJ3 := hJa _ _ _ none hJ (grown_of_below hb3) (fun r e => by cases e)
        have hT3 := hT1.below hb3
        have hbs3 := (hb3.block Bs hBlt).trans hbs
        clear hb3 hJ hT1 hbs hc0
        obtain ⟨fn, tmps, assign, body, hy, hR⟩ := hY _ (at_, 65533) _ hJ3 ⟨_, HNX.out⟩
        dsimp only at hy
        rw [show clp 65533 = 65533 from rfl] at hy
        gi_wp2
        refine hR.mono ?_
        rintro e w4 (⟨rfl, hJ4, hk4⟩ | ⟨ch, rfl, hp⟩)
        · gi_wp2
          go_roundw
          case rel => exact ⟨at_ + q, _, by go_num, hle, hJ4, (hk4 Bs (.inl rfl)).trans hbs3, hT3.kept (hk4 _ (.inr (.inl rfl))) (hk4 _ (.inr (.inr rfl))), HNX⟩
          case measure => simp [intOf]; omega
        · exact ⟨rfl, .inr ⟨ch, rfl, hp⟩⟩
    · have hend : Hid (pre = pts s.data.toList) := by
        unfold Hid; rw [← HG.out, List.drop_of_length_le (by simp; omega), ptsF_nil, List.append_nil]
      gi_wp2
      go_end0
      exact .inl ⟨_, rfl, hend.out ▸ hJ⟩

end Go.Proofs.YtdgcdjpjnhlihaaGreatDoor
set_option linter.unusedVariables false
set_option linter.unusedSimpArgs false
namespace Go.Proofs.YtdgcdjpjnhlihaaGreatDoor
open Go.RowKit Go.Shelf Go.Lib
attribute [local go_sem] Oper.semAt_some

/-- A piece that is no code point's. -/
def badPt (l : By) (x : Nat × Int) : Bool := decide (clp x.2 = 65533) && !Lib.hasPrefix (l.drop x.1) [239, 191, 189]
/-- Where the first piece begins that is no code point's. -/
def badB (l : By) : Option Nat := if validD l = true then none else ((pts l).find? (badPt l)).map Prod.fst
theorem ptsF_lt : ∀ (f at_ : Nat) (l : By), ∀ x ∈ ptsF f at_ l, at_ ≤ x.1 ∧ x.1 < at_ + l.length := by
  intro f
  induction f with
  | zero => intro at_ l x hx; cases hx
  | succ f ih =>
    intro at_ l x hx
    rw [ptsF] at hx
    split at hx
    · cases hx
    · rename_i hne
      have hl : 0 < l.length := List.length_pos_iff.2 hne
      have hr := pc_range l hne
      rcases List.mem_cons.1 hx with rfl | hx
      · exact ⟨Nat.le_refl _, by simp; omega⟩
      · have := ih _ _ x hx
        rw [List.length_drop] at this
        omega
theorem pts_lt (l : By) : ∀ x ∈ pts l, x.1 < l.length := fun x hx => by have := ptsF_lt _ _ _ x hx; omega
theorem find_app {α : Type} (p : α → Bool) (pre : List α) (x : α) (t xs : List α) (h : (pre ++ [x]) ++ t = xs) (h1 : ∀ y ∈ pre, p y = false) (h2 : p x = true) : xs.find? p = some x := by
  rw [← h, List.append_assoc, List.find?_append, List.find?_eq_none.2 (fun y hy => by rw [h1 y hy]; simp)]
  simp [h2]
theorem find_none' {α : Type} (p : α → Bool) (xs : List α) (h : ∀ y ∈ xs, p y = false) : xs.find? p = none := List.find?_eq_none.2 (fun y hy => by rw [h y hy]; simp)
/-- What a round's panic says. -/
def BadP (s : ByteArray) (w2 : World) (ch : List PanicEntry) (W : World) : Prop :=
  (∃ x, (pts (bl s)).find? (badPt (bl s)) = some x ∧ ch = [{ v := .iface 64 (.agg #[.int .i64 197, .int .i64 (x.1 : Nat)]), recovered := false }]) ∧ Below w2.heap.size w2 W
def GoodP (s : ByteArray) (w2 : World) (pre : List (Nat × Int)) (W : World) : Prop := (∀ x ∈ pre, badPt (bl s) x = false) ∧ Below w2.heap.size w2 W

set_option maxRecDepth 100000 in
set_option maxHeartbeats 4000000 in
theorem tvalid_bad (s : ByteArray) (hs : s.size ≤ 16384) (hv : validD (bl s) = false) (w : World) (hg : Gd w) : Calls Tryz.prog 36 #[.string s] w (ValidR w (badB (bl s))) := by
  have H : Hid (∀ w, Gd w → Calls Tryz.prog 66 #[.string s] w fun e w' => e = .returned (.bool false) ∧ Below w.heap.size w w') := fun w h => by
    have := valid_calls s (by omega) w h.2
    rw [show s.data.toList = bl s from rfl, hv] at this
    exact this
  have HG := Lib.hid hg
  have HBB : Hid (badB (bl s) = ((pts (bl s)).find? (badPt (bl s))).map Prod.fst) := by unfold Hid badB; rw [if_neg (by rw [hv]; simp)]
  clear hg hv
  refine calls_at 5 Tryz.func36 rfl ?_
  intro b hbf hbr
  have HBF := Lib.hid hbf
  clear hbf
  simp only [Tryz.ntmps36, List.size_toArray, List.length_cons, List.length_nil, Nat.reduceAdd, Nat.reduceSub, Array.replicate_succ, Array.replicate_zero, List.push_toArray, List.append_toArray, List.nil_append, List.cons_append]
  refine WpAt.seq 5 hbr ?_
  intro K hK
  have HK := Lib.hid hK
  clear hK
  gi_wp2_with fail
  refine HK.out _ _ (WpAt.seq 5 hbr ?_)
  clear HK K
  intro K hK
  have HK := Lib.hid hK
  clear hK
  have HB0 : Hid (Below w.heap.size w (w.alloc (.cells #[.string s] 9))) := (Below.refl w.heap.size w).alloc (Nat.le_refl _) _
  have HS0 : Hid ((w.alloc (.cells #[.string s] 9)).heap[w.heap.size]? = some (.cells #[.string s] 9 (0, 0))) := heap_alloc_new w _
  have HZ0 : Hid ((w.alloc (.cells #[.string s] 9)).heap.size = w.heap.size + 1) := by unfold Hid; simp
  gi_wp2_with fail
  refine ⟨trivial, (callsIn_wide.2 (H.out _ (HG.out.below HB0.out))).mono ?_⟩
  rintro e w1 ⟨rfl, hb1⟩
  generalize hW0 : World.alloc w _ = w0 at *
  clear hW0
  have HB1 : Hid (Below w.heap.size w w1) := HB0.out.trans (hb1.mono HB0.out.size)
  have HS1 : Hid (w1.heap[w.heap.size]? = some (.cells #[.string s] 9 (0, 0))) := (hb1.block _ (by rw [HZ0.out]; omega)).trans HS0.out
  have hlt1 : w.heap.size < w1.heap.size := by have := hb1.size; rw [HZ0.out] at this; omega
  clear hb1
  gi_wp2_with fail
  refine HK.out _ _ (WpAt.seq 5 hbr ?_)
  clear HK K
  intro K hK
  have HK := Lib.hid hK
  clear hK
  have hc1 : w1.cell? ⟨w.heap.size, 0, none⟩ = some (.string s) := by rw [cell_of_heap' HS1.out]; rfl
  gi_wp2_with fail
  refine ⟨trivial, (callsIn_wide.2 (pointsF_calls s w1)).mono ?_⟩
  rintro e w' ⟨rfl, rfl⟩
  clear hc1
  have HBa : Hid (Below w1.heap.size w1 (w1.alloc (.cells #[.string s] 9))) := (Below.refl w1.heap.size w1).alloc (Nat.le_refl _) _
  have HSa : Hid ((w1.alloc (.cells #[.string s] 9)).heap[w1.heap.size]? = some (.cells #[.string s] 9 (0, 0))) := heap_alloc_new w1 _
  have HZa : Hid ((w1.alloc (.cells #[.string s] 9)).heap.size = w1.heap.size + 1) := by unfold Hid; simp
  gi_wp2_with fail
  refine HK.out _ _ (WpAt.block ?_)
  clear HK K
  generalize hW2 : World.alloc w1 _ = w2 at *
  clear hW2
  have HB2 : Hid (Below w.heap.size w w2) := HB1.out.trans (HBa.out.mono (by omega))
  have HS2 : Hid (w2.heap[w.heap.size]? = some (.cells #[.string s] 9 (0, 0))) := (HBa.out.block _ hlt1).trans HS1.out
  have HT2 : Hid (Tabs w2) := (HG.out.below HB2.out).2
  refine WpAt.rangeP 5 hbr (fn := Tryz.f36) (by rw [HBF.out]; exact Tryz.func36) rfl (enters_of Tryz.func111 (by kernel_rfl) rfl) (encs := ptV) (Kp := Kp3 w1.heap.size) (xs := pts (bl s))
    (fun l J Jp W hW hJ hY h0 => points1_p 5 (by omega) l w1.heap.size s (by omega) J Jp W hJ hY ((hW.block _ (by rw [HZa.out]; omega)).trans HSa.out) (HT2.out.below hW) h0) kp3_t ?hkb (fun _ => rfl)
    (GoodP s w2) (BadP s w2) ?own ⟨(fun x hx => by cases hx), Below.refl _ _⟩
    (fun x => { tmps := #[.string s, .pointer (some ⟨w.heap.size, 0, none⟩), .int .i64 (x.1 : Nat), .int .i32 (clp x.2), .string s, .bool false, .string s, .func (.func 111) #[] #[.pointer (some ⟨w1.heap.size, 0, none⟩)], .int .i64 (x.1 : Nat), .int .i32 (clp x.2), undef, undef, undef, undef, undef, undef, undef, undef, undef, undef, undef, undef], defers := [] }) ?assign ?body ?done ?pan
  case hkb =>
    intro W l o o' hl _ _ _ bk hb
    exact World.putObj_heap_other (by
      have := HT2.out.lt
      have h2 := HZa.out
      rcases hb with rfl | rfl | rfl <;> omega)
  case own =>
    exact fun st A B row hst hg hr => ⟨hst.1, ownFrom_below (Nat.le_refl _) (Nat.le_refl _) st A B row hst.2 hg hr⟩
  case assign =>
    intro l x W K hK
    dsimp only [ptV]
    gi_wp2
    exact hK
  case body =>
    rintro l pre x W ⟨hgd, hbw⟩ ⟨t, ht⟩
    have hxl : x.1 < s.size := pts_lt (bl s) x (by rw [← ht]; simp)
    have hcW : W.cell? ⟨w.heap.size, 0, none⟩ = some (.string s) := by rw [cell_of_heap' ((hbw.block _ (by rw [HZa.out]; omega)).trans HS2.out)]; rfl
    have HBW := Lib.hid hbw
    have HGD := Lib.hid hgd
    have HTT := Lib.hid ht
    clear hbw hgd ht
    obtain ⟨k, r⟩ := x
    dsimp only at hxl ⊢
    have HX : Hid (badPt (bl s) (k, r) = (decide (clp r = 65533) && !Lib.hasPrefix ((bl s).drop k) [239, 191, 189])) := rfl
    have hEx : (s.extract k s.size).data.toList = (bl s).drop k := Lib.extract_to_end s k
    have hxs : k ≤ s.size := by omega
    by_cases h1 : clp r = 65533
    · have q1 : (clp r == 65533) = true := by rw [h1]; rfl
      have PX : Hid (Calls Tryz.prog 68 #[.string (s.extract k s.size), .string ⟨#[239, 191, 189]⟩] W fun e w' => e = .returned (.bool (Lib.hasPrefix ((bl s).drop k) [239, 191, 189])) ∧ w' = W) := by
        have := Tryz.strings_HasPrefix (s.extract k s.size) ⟨#[239, 191, 189]⟩ W
        rw [hEx] at this
        exact this
      have HX2 : Hid (badPt (bl s) (k, r) = !Lib.hasPrefix ((bl s).drop k) [239, 191, 189]) := by unfold Hid; rw [HX.out, h1]; simp
      clear hEx h1
      generalize Lib.hasPrefix ((bl s).drop k) [239, 191, 189] = hp at *
      gi_wp2_with fail
      refine ⟨trivial, (CallsIn.inRound l (callsIn_wide.2 PX.out)).mono ?_⟩
      rintro e w' ⟨rfl, rfl⟩
      cases hp with
      | true =>
        gi_wp2_with fail
        refine ⟨KeepsOthers.refl _, fun _ _ => rfl, ?_, HBW.out⟩
        intro y hy
        rcases List.mem_append.1 hy with hy | hy
        · exact HGD.out y hy
        · rw [List.mem_singleton.1 hy]; exact HX2.out
      | false =>
        gi_wp2_with fail
        exact ⟨rfl, KeepsOthers.refl _, ⟨_, find_app _ _ _ _ _ HTT.out HGD.out HX2.out, rfl⟩, HBW.out⟩
    · have q1 : (clp r == 65533) = false := beq_eq_false_iff_ne.2 h1
      have HX2 : Hid (badPt (bl s) (k, r) = false) := by unfold Hid; rw [HX.out, decide_eq_false h1]; rfl
      clear hEx h1
      gi_wp2_with fail
      refine ⟨trivial, ?_⟩
      gi_wp2_with fail
      refine ⟨KeepsOthers.refl _, fun _ _ => rfl, ?_, HBW.out⟩
      intro y hy
      rcases List.mem_append.1 hy with hy | hy
      · exact HGD.out y hy
      · rw [List.mem_singleton.1 hy]; exact HX2.out
  case done =>
    rintro D W hD ⟨hgd, hbw⟩ hK
    have hnone : badB (bl s) = none := by rw [HBB.out, find_none' _ _ hgd]; rfl
    rw [hnone]
    have hBW : Below w.heap.size w (W.putObj D (.deferred none)) := (HB2.out.trans (hbw.mono HB2.out.size)).trans (belowK_b (w := w2) HB2.out.size W D _ _ hD hK rfl rfl)
    refine ⟨by simp, .inl ⟨_, _, rfl, run_takeDeferred hK, ?_⟩⟩
    exact ⟨_, by simp [results, Tryz.results36, go_sem], hBW, rfl⟩
  case pan =>
    rintro D ch W hD ⟨⟨x, hx, rfl⟩, hbw⟩ hK
    have hsome : badB (bl s) = some x.1 := by rw [HBB.out, hx]; rfl
    rw [hsome]
    have hBW : Below w.heap.size w (W.putObj D (.deferred none)) := (HB2.out.trans (hbw.mono HB2.out.size)).trans (belowK_b (w := w2) HB2.out.size W D _ _ hD hK rfl rfl)
    refine ⟨by simp, .inl ⟨_, _, rfl, run_takeDeferred hK, ?_⟩⟩
    exact ⟨hBW, rfl⟩
end Go.Proofs.YtdgcdjpjnhlihaaGreatDoor
set_option linter.unusedVariables false
set_option linter.unusedSimpArgs false
namespace Go.Proofs.YtdgcdjpjnhlihaaGreatDoor
open Go.RowKit Go.Shelf Go.Lib

theorem tvalid_calls (s : ByteArray) (hs : s.size ≤ 16384) (w : World) (hg : Gd w) : Calls Tryz.prog 36 #[.string s] w (ValidR w (badB (bl s))) := by
  by_cases hv : validD (bl s) = true
  · have : badB (bl s) = none := if_pos hv
    rw [this]; exact tvalid_good s hs hv w hg
  · exact tvalid_bad s hs (by simpa using hv) w hg
set_option maxRecDepth 100000 in
set_option maxHeartbeats 10000000 in
theorem parse_bad (s : ByteArray) (hs : s.size ≤ 16384) (w : World) (hsh : Gd w) (k : Nat) (hb : badB (bl s) = some k) : Calls Tryz.prog 16 #[.string s] w (ParseU w (.err 197 k)) := by
  have hmf : ∀ (fn : Fn) (first cap : Array Value) (w : World), (Instr.makeFunc fn first cap).run Tryz.prog w = .ok (.func fn first cap) w := fun _ _ _ _ => rfl
  have hs' : ¬ (16384 : Int) < (s.size : Int) := by omega
  have HVA : Hid (∀ w, Gd w → Calls Tryz.prog 36 #[.string s] w (ValidR w (some k))) := fun w h => by have := tvalid_calls s hs w h; rwa [hb] at this
  go_enter_defers Tryz.func16, Tryz.ntmps16
  go_wp2_with fail
  have hb0 : Below w.heap.size w ((w.alloc (.cells #[.slice none 0 0, .slice none 0 0] 25)).alloc (.cells #[.nilIface] 36)) := ((Below.refl w.heap.size w).alloc (Nat.le_refl _) _).alloc (by simp) _
  have hsz0 : ((w.alloc (.cells #[.slice none 0 0, .slice none 0 0] 25)).alloc (.cells #[.nilIface] 36)).heap.size = w.heap.size + 2 := by simp
  have hT0 : ((w.alloc (.cells #[.slice none 0 0, .slice none 0 0] 25)).alloc (.cells #[.nilIface] 36)).heap[w.heap.size]? = some (.cells #[.slice none 0 0, .slice none 0 0] 25 (0, 0)) :=
    (Below.heap_alloc _ _ _ (by simp)).trans (heap_alloc_new w _)
  have hE0 : ((w.alloc (.cells #[.slice none 0 0, .slice none 0 0] 25)).alloc (.cells #[.nilIface] 36)).heap[w.heap.size + 1]? = some (.cells #[.nilIface] 36 (0, 0)) := by
    have := heap_alloc_new (w.alloc (.cells #[.slice none 0 0, .slice none 0 0] 25)) (.cells #[.nilIface] 36)
    rwa [show (w.alloc (.cells #[.slice none 0 0, .slice none 0 0] 25)).heap.size = w.heap.size + 1 by simp] at this
  refine (HVA.out _ (hsh.below hb0)).mono ?_
  rintro e w1 ⟨hb1, rfl⟩
  have hbt := (hb1.block w.heap.size (by rw [hsz0]; omega)).trans hT0
  have hbe := (hb1.block (w.heap.size + 1) (by rw [hsz0]; omega)).trans hE0
  have hb01 : Below w.heap.size w w1 := hb0.trans (hb1.mono (by rw [hsz0]; omega))
  have hs1 : w.heap.size + 2 ≤ w1.heap.size := by have := hb1.size; rw [hsz0] at this; exact this
  exact parse_out 197 k hs1 hb01 hbt hbe (Below.refl _ _) rfl rfl rfl rfl
theorem parse_callsU (s : ByteArray) (hs : s.size ≤ 16384) (w : World) (hg : Gd w) : Calls Tryz.prog 16 #[.string s] w (ParseU w (parseB badB (bl s))) := by
  cases hb : badB (bl s) with
  | none =>
    have VA : ∀ w, Gd w → Calls Tryz.prog 36 #[.string s] w (ValidR w none) := fun w h => by have := tvalid_calls s hs w h; rwa [hb] at this
    exact (parseCap badB s hs w hg hb VA).2.2 (parse_a badB s hs w hg hb VA) (parse_b badB s hs w hg hb VA)
  | some k =>
    have : parseB badB (bl s) = .err 197 k := by
      unfold parseB
      rw [bl_len, if_neg (by omega), hb]
    rw [this]
    exact parse_bad s hs w hg k hb
theorem parse_calls (s : ByteArray) (hs : s.size ≤ 16384) (w : World) (hg : Gd w) : Calls Tryz.prog 16 #[.string s] w (ParseR w (parseB badB (bl s))) :=
  (parse_callsU s hs w hg).mono fun _ _ h => h.weak
end Go.Proofs.YtdgcdjpjnhlihaaGreatDoor
set_option linter.unusedVariables false
set_option linter.unusedSimpArgs false
namespace Go.Proofs.YtdgcdjpjnhlihaaGreatDoor
open Go.Lib

theorem all_pieces (S : By) : ∀ (f at_ : Nat), (S.drop at_).length ≤ f → (∀ x ∈ ptsF f at_ (S.drop at_), badPt S x = false) → encR (rnsF f (S.drop at_)) = S.drop at_ := by
  intro f
  induction f with
  | zero =>
    intro at_ h _
    have : S.drop at_ = [] := List.length_eq_zero_iff.1 (by omega)
    rw [this, rnsF_nil]; rfl
  | succ f ih =>
    intro at_ h hb
    by_cases hl : S.drop at_ = []
    · rw [hl, rnsF_nil]; rfl
    have hr := pc_range _ hl
    have e1 : rnsF (f + 1) (S.drop at_) = rn (S.drop at_) :: rnsF f ((S.drop at_).drop (pc (S.drop at_)).1) := by rw [rnsF, if_neg hl]
    have e2 : ptsF (f + 1) at_ (S.drop at_) = (at_, rn (S.drop at_)) :: ptsF f (at_ + (pc (S.drop at_)).1) ((S.drop at_).drop (pc (S.drop at_)).1) := by rw [ptsF, if_neg hl]
    rw [e2] at hb
    have hx := hb _ (List.mem_cons_self ..)
    have hrest := ih (at_ + (pc (S.drop at_)).1) (by rw [← List.drop_drop, List.length_drop]; omega) (fun x hx => hb x (by rw [← List.drop_drop] at hx; exact List.mem_cons_of_mem _ hx))
    rw [e1, encR_cons, List.drop_drop, hrest]
    have hok : (pc (S.drop at_)).2 = true := by
      cases hp : (pc (S.drop at_)).2 with
      | true => rfl
      | false =>
        exfalso
        have h5 := (pc_no _ hl hp).1
        unfold badPt at hx
        dsimp only at hx
        rw [h5, show clp 65533 = 65533 from rfl] at hx
        simp [Lib.hasPrefix] at hx
        obtain ⟨t, ht⟩ := hx
        have := (pc_enc 65533 ⟨by decide, by decide, by decide⟩ t).1
        rw [show encodeRune 65533 ++ t = [239, 191, 189] ++ t from rfl, ht] at this
        rw [this] at hp
        cases hp
    rw [(pc_yes _ hl hok).2, ← List.drop_drop, List.take_append_drop]
theorem bad_valid (S : By) (h : badB S = none) : validD S = true := by
  unfold badB at h
  split at h
  · assumption
  · rw [Option.map_eq_none_iff] at h
    refine (valid_decd S).2 ?_
    have := all_pieces S S.length 0 (by simp) (fun x hx => by
      have := List.find?_eq_none.1 h x (by simpa [pts] using hx)
      simpa using this)
    rw [decd_rns]
    simpa [rns] using this
theorem bad_le (S : By) (k : Nat) (h : badB S = some k) : k ≤ S.length := by
  unfold badB at h
  split at h
  · cases h
  · rw [Option.map_eq_some_iff] at h
    obtain ⟨x, hx, rfl⟩ := h
    have := pts_lt S x (List.mem_of_find?_eq_some hx)
    omega
end Go.Proofs.YtdgcdjpjnhlihaaGreatDoor
set_option linter.unusedVariables false
set_option linter.unusedSimpArgs false
namespace Go.Proofs.YtdgcdjpjnhlihaaGreatDoor

theorem splitP_sum (p : UInt8 → Bool) (s : By) : ((splitP p s).map List.length).sum + (splitP p s).length = s.length + 1 := by
  induction s with
  | nil => rfl
  | cons x r ih =>
    unfold splitP
    split
    · simp only [List.map_cons, List.sum_cons, List.length_cons, List.length_nil]; omega
    · split
      · rename_i h t he
        rw [he] at ih
        simp only [List.map_cons, List.sum_cons, List.length_cons] at ih ⊢; omega
      · rename_i he
        exact absurd he (splitP_ne p r)
theorem filter_sum (q : By → Bool) (l : List By) : ((l.filter q).map List.length).sum ≤ (l.map List.length).sum := by
  induction l with
  | nil => exact Nat.le_refl _
  | cons x l ih =>
    rw [List.filter_cons]
    split
    · simp only [List.map_cons, List.sum_cons]; omega
    · simp only [List.map_cons, List.sum_cons]; omega
theorem words_sum (s : By) : ((wordsB s).map List.length).sum ≤ s.length := by
  have h1 := filter_sum (fun x => decide (x ≠ [])) (splitP blank s)
  have h2 := splitP_sum blank s
  have h3 : 0 < (splitP blank s).length := List.length_pos_iff.2 (splitP_ne _ _)
  unfold wordsB
  omega
def sumL (l : List By) : Nat := (l.map List.length).sum
theorem wayT_len (root : Bool) (w : By) (p : Bool × List By) (h : wayT root w = some p) : p.2.length + sumL p.2 ≤ w.length := by
  unfold wayT at h
  split at h
  · rename_i r
    split at h
    · cases h
      have := splitP_sum (· == 46) r
      unfold sumL
      simp only [List.length_cons]
      omega
    · cases h
  · cases h
theorem wayB_len (w : By) (p : Bool × List By) (h : wayB w = some p) : p.2.length + sumL p.2 ≤ w.length := by
  unfold wayB at h
  split at h
  · cases h; simp [sumL]
  · cases h; simp [sumL]
  · have := wayT_len _ _ _ h
    simp only [List.length_cons]; omega
  · exact wayT_len _ _ _ h
theorem nsz_mk (l : List By) : nsz (l.map mkB) = sumL l := by
  induction l with
  | nil => rfl
  | cons x l ih =>
    simp only [nsz, sumL, List.map_cons, List.sum_cons] at ih ⊢
    rw [ih]; rfl
theorem wt_nil : wt .nil = 0 := rfl
theorem wt_one (h : Hd) (k e : Pt) : wt (.one h k e) = 1 + hw h + wt k + wt e := by
  show (Pt.nil.len + 1) + (hw h + (k.len + wq k) + (e.len + wq e) + 0) = _
  unfold wt
  simp only [Pt.len]; omega
theorem wt_app (x y : Pt) : wt (x.app y) = wt x + wt y := by
  induction x with
  | nil => show wt y = 0 + wt y; omega
  | cons h k e r _ _ ih =>
    have e1 : wt (Pt.cons h k e (r.app y)) = 1 + hw h + wt k + wt e + wt (r.app y) := by
      show ((r.app y).len + 1) + (hw h + (k.len + wq k) + (e.len + wq e) + wq (r.app y)) = _
      unfold wt; omega
    have e2 : wt (Pt.cons h k e r) = 1 + hw h + wt k + wt e + wt r := by
      show (r.len + 1) + (hw h + (k.len + wq k) + (e.len + wq e) + wq r) = _
      unfold wt; omega
    show wt (Pt.cons h k e (r.app y)) = _
    rw [e1, e2, ih]; omega
def wFr (f : Fr) : Nat := 1 + wt f.kids + wt f.fst + f.name.length + f.names.length + sumL f.names
def wSt (s : St) : Nat := wFr s.top + (s.rest.map wFr).sum + wtD s.defs + s.defs.length
theorem put_wt (s : St) (h : Hd) (k e : Pt) : wSt (s.put h k e) = wSt s + 1 + hw h + wt k + wt e := by
  unfold St.put wSt wFr
  dsimp only
  rw [wt_app, wt_one]; omega
theorem count_wt {s s' : St} {i : Nat} (h : s.count i = .ok s') : wSt s' = wSt s ∧ s'.calls = s.calls := by
  unfold St.count at h
  split at h
  · cases h
  · cases h; exact ⟨rfl, rfl⟩
theorem add_wt {s s' : St} {hd : Hd} {i : Nat} (h : s.add hd i = .ok s') : wSt s' = wSt s + 1 + hw hd ∧ s'.calls = s.calls := by
  unfold St.add at h
  obtain ⟨t, ht, h⟩ := Rs.bind_eq_ok h
  cases h
  obtain ⟨h1, h2⟩ := count_wt ht
  rw [put_wt, h1, wt_nil]
  exact ⟨by omega, h2⟩
theorem begin_wt {s s' : St} {f : Fr} {i : Nat} (h : s.begin f i = .ok s') : wSt s' = wSt s + wFr f ∧ s'.calls = s.calls := by
  unfold St.begin at h
  split at h
  · cases h
  · cases h
    refine ⟨?_, rfl⟩
    unfold wSt
    simp only [List.map_cons, List.sum_cons]
    omega
theorem hw_way (k pos : Nat) (root : Bool) (l : List By) : hw (hdWay k pos root l) = l.length + sumL l := by
  show (mkB []).size + (mkB []).size + (l.map mkB).length + nsz (l.map mkB) = _
  rw [nsz_mk, List.length_map]
  have : (mkB []).size = 0 := rfl
  omega
theorem hw_hole (pos : Nat) (root : Bool) (l : List By) : hw (hdHole pos root l) = l.length + sumL l := by
  show (mkB []).size + (mkB []).size + (l.map mkB).length + nsz (l.map mkB) = _
  rw [nsz_mk, List.length_map]
  have : (mkB []).size = 0 := rfl
  omega
theorem hw_call (pos : Nat) (n : By) (root : Bool) (l : List By) : hw (hdCall pos n root l) = n.length + l.length + sumL l := by
  show (mkB []).size + (mkB n).size + (l.map mkB).length + nsz (l.map mkB) = _
  rw [nsz_mk, List.length_map]
  have : (mkB []).size = 0 := rfl
  have : (mkB n).size = n.length := rfl
  omega
theorem hw_text (pos : Nat) (x : By) : hw (hdText pos x) = x.length := by
  show (mkB x).size + (mkB []).size + 0 + nsz [] = _
  have : (mkB []).size = 0 := rfl
  have : (mkB x).size = x.length := rfl
  have : nsz [] = 0 := rfl
  omega
theorem wtD_snoc (l : List Df) (d : Df) : wtD (l ++ [d]) = wtD l + (d.name.size + wt d.kids) := by
  unfold wtD
  simp
theorem endA_wt {s s' : St} {i : Nat} (h : s.endA i = .ok s') : wSt s' ≤ wSt s ∧ s'.calls = s.calls := by
  unfold St.endA at h
  split at h
  · cases h
  · rename_i f r hr
    have hold : wSt s = wFr s.top + (wFr f + (r.map wFr).sum) + wtD s.defs + s.defs.length := by
      unfold wSt; rw [hr]; simp
    split at h
    · cases h
      refine ⟨?_, rfl⟩
      rw [hold]
      unfold wSt
      dsimp only
      rw [wtD_snoc, List.length_append]
      have : (mkB s.top.name).size = s.top.name.length := rfl
      have : ([⟨mkB s.top.name, s.top.pos, s.top.kids⟩] : List Df).length = 1 := rfl
      have e : wFr s.top = 1 + wt s.top.kids + wt s.top.fst + s.top.name.length + s.top.names.length + sumL s.top.names := rfl
      dsimp only
      omega
    · cases h
      refine ⟨?_, rfl⟩
      rw [put_wt, hold, hw_way]
      have e : wFr s.top = 1 + wt s.top.kids + wt s.top.fst + s.top.name.length + s.top.names.length + sumL s.top.names := rfl
      have e2 : wSt { s with top := f, rest := r } = wFr f + (r.map wFr).sum + wtD s.defs + s.defs.length := rfl
      rw [e2]
      split <;> (try rw [wt_nil]) <;> omega
theorem elseA_wt {s s' : St} {i : Nat} (h : s.elseA i = .ok s') : wSt s' ≤ wSt s ∧ s'.calls = s.calls := by
  unfold St.elseA at h
  split at h
  · cases h
  · cases h
    refine ⟨?_, rfl⟩
    unfold wSt wFr
    dsimp only
    rw [wt_nil]; omega
theorem action_wt {x : By} {i : Nat} {s s' : St} (h : action x i s = .ok s') : wSt s' ≤ wSt s + 1 + x.length ∧ ∀ c ∈ s'.calls, c ∈ s.calls ∨ c.2 = i := by
  unfold action at h
  have hwl := words_sum x
  split at h
  · cases h; exact ⟨by omega, fun c hc => .inl hc⟩
  split at h
  · rename_i w hw
    rw [hw] at hwl
    simp only [List.map_cons, List.map_nil, List.sum_cons, List.sum_nil] at hwl
    unfold act1 at h
    split at h
    · obtain ⟨a, b⟩ := endA_wt h
      exact ⟨by omega, fun c hc => .inl (b ▸ hc)⟩
    split at h
    · obtain ⟨a, b⟩ := elseA_wt h
      exact ⟨by omega, fun c hc => .inl (b ▸ hc)⟩
    split at h
    · cases h
    · rename_i p hp
      obtain ⟨a, b⟩ := add_wt h
      have := wayB_len _ _ hp
      rw [hw_hole] at a
      exact ⟨by omega, fun c hc => .inl (b ▸ hc)⟩
  · rename_i w y hw
    rw [hw] at hwl
    simp only [List.map_cons, List.map_nil, List.sum_cons, List.sum_nil] at hwl
    unfold act2 at h
    split at h
    · split at h
      · cases h
      · rename_i p hp
        obtain ⟨t, ht, h⟩ := Rs.bind_eq_ok h
        obtain ⟨a, b⟩ := begin_wt ht
        obtain ⟨a2, b2⟩ := count_wt h
        have := wayB_len _ _ hp
        unfold wFr at a
        dsimp only at a
        rw [wt_nil] at a
        simp only [List.length_nil] at a
        exact ⟨by omega, fun c hc => .inl (b ▸ b2 ▸ hc)⟩
    split at h
    · split at h
      · cases h
      split at h
      · cases h
      · obtain ⟨a, b⟩ := begin_wt h
        unfold wFr at a
        dsimp only at a
        rw [wt_nil] at a
        have : sumL [] = 0 := rfl
        simp only [List.length_nil] at a
        exact ⟨by omega, fun c hc => .inl (b ▸ hc)⟩
    · cases h
  · rename_i w y z hw
    rw [hw] at hwl
    simp only [List.map_cons, List.map_nil, List.sum_cons, List.sum_nil] at hwl
    unfold act3 at h
    split at h
    · split at h
      · cases h
      rename_i p hp
      split at h
      · cases h
      · obtain ⟨t, ht, h⟩ := Rs.bind_eq_ok h
        obtain ⟨a, b⟩ := count_wt ht
        cases h
        have := wayB_len _ _ hp
        rw [put_wt, hw_call, wt_nil]
        have e : wSt { t with calls := t.calls ++ [(y, i)] } = wSt t := rfl
        rw [e]
        refine ⟨by omega, fun c hc => ?_⟩
        have hc' : c ∈ t.calls ++ [(y, i)] := hc
        rcases List.mem_append.1 hc' with hc | hc
        · exact .inl (b ▸ hc)
        · rw [List.mem_singleton.1 hc]; exact .inr rfl
    · cases h
  · cases h
theorem readF_wt (f : Nat) : ∀ (x : By) (at_ : Nat) (s s' : St), readF f x at_ s = .ok s' → (∀ c ∈ s.calls, c.2 ≤ at_) → wSt s' ≤ wSt s + 2 * x.length ∧ ∀ c ∈ s'.calls, c.2 ≤ at_ + x.length := by
  induction f with
  | zero => intro x at_ s s' h hc; cases h; exact ⟨by omega, fun c h => by have := hc c h; omega⟩
  | succ f ih =>
    intro x at_ s s' h hc
    unfold readF at h
    split at h
    · cases h; exact ⟨by omega, fun c h => by have := hc c h; omega⟩
    rename_i hx
    split at h
    · obtain ⟨a, b⟩ := add_wt h
      rw [hw_text] at a
      have : 0 < x.length := List.length_pos_iff.2 hx
      exact ⟨by omega, fun c h => by have := hc c (b ▸ h); omega⟩
    · rename_i a r hcut
      obtain ⟨rfl, -, -⟩ := cut2_some 123 _ _ _ hcut
      simp only [List.length_append, List.length_cons]
      obtain ⟨t, ht, g⟩ := Rs.bind_eq_ok h
      clear h
      have h1 : wSt t ≤ wSt s + 2 * a.length ∧ ∀ c ∈ t.calls, c.2 ≤ at_ := by
        split at ht
        · cases ht; exact ⟨by omega, hc⟩
        · rename_i ha
          obtain ⟨q, b⟩ := add_wt ht
          rw [hw_text] at q
          have : 0 < a.length := List.length_pos_iff.2 ha
          exact ⟨by omega, fun c h => hc c (b ▸ h)⟩
      split at g
      · cases g
      · rename_i j r2 hc2
        obtain ⟨rfl, -, -⟩ := cut2_some 125 _ _ _ hc2
        simp only [List.length_append, List.length_cons]
        obtain ⟨u, hu, g2⟩ := Rs.bind_eq_ok g
        obtain ⟨q1, q2⟩ := action_wt hu
        obtain ⟨z1, z2⟩ := ih _ _ _ _ g2 (fun c hcc => by
          rcases q2 c hcc with hcc | hcc
          · have := h1.2 c hcc; omega
          · omega)
        exact ⟨by omega, fun c h => by have := z2 c h; omega⟩
theorem noneAt_mem (defs : List Df) : ∀ (l : List (By × Nat)) (k : Nat), noneAt defs l = some k → ∃ c ∈ l, c.2 = k := by
  intro l
  induction l with
  | nil => intro k h; cases h
  | cons x l ih =>
    intro k h
    unfold noneAt at h
    split at h
    · obtain ⟨c, hc, e⟩ := ih k h; exact ⟨c, List.mem_cons_of_mem _ hc, e⟩
    · cases h; exact ⟨x, List.mem_cons_self .., rfl⟩
/-- What is wrong lies in the source. -/
theorem parse_err (x : By) (hx : x.length ≤ 16384) (e i : Nat) (h : parseB badB x = .err e i) : (190 ≤ e ∧ e ≤ 197) ∧ i ≤ x.length := by
  unfold parseB at h
  rw [if_neg (by omega)] at h
  split at h
  · rename_i k hk
    cases h
    exact ⟨by omega, bad_le _ _ hk⟩
  · rcases bind_err h with h | ⟨s, hs, h⟩
    · have := readF_err _ _ _ _ _ _ h; omega
    · obtain ⟨-, q⟩ := readF_wt _ _ _ _ _ hs (fun c hc => by cases hc)
      unfold finish at h
      split at h
      · cases h; omega
      · split at h
        · rename_i k hk
          cases h
          obtain ⟨c, hc, rfl⟩ := noneAt_mem _ _ _ hk
          have := q c hc
          omega
        · cases h
/-- What was read is one of the templates that the walks are for. -/
theorem form_kd (t : Pt) : ∀ fr, t.form fr = true → ∀ n, n ≤ 16777216 → t.len + wq t ≤ n → t.sm := by
  induction t with
  | nil => intro fr _ n _ _; exact trivial
  | cons h k e r ihk ihe ihr =>
    intro fr hf n hn hl
    simp only [Pt.len, wq] at hl
    simp only [Pt.form, Bool.and_eq_true] at hf
    obtain ⟨⟨hh, hke⟩, hr⟩ := hf
    have hq : hw h = h.text.size + h.name.size + h.names.length + nsz h.names := rfl
    have key : h.kind < 256 ∧ k.sm ∧ e.sm := by
      unfold hdOk at hh
      have leaf : (k.isNil = true ∧ e.isNil = true) → k.sm ∧ e.sm := by
        rintro ⟨h1, h2⟩
        cases k with
        | cons _ _ _ _ => cases h1
        | nil => cases e with
          | cons _ _ _ _ => cases h2
          | nil => exact ⟨trivial, trivial⟩
      by_cases h1 : h.kind = 1
      · rw [if_pos h1] at hh
        simp only [Bool.and_eq_true] at hh
        exact ⟨by omega, leaf ⟨hh.1.2, hh.2⟩⟩
      rw [if_neg h1] at hh
      by_cases h2 : h.kind = 2
      · rw [if_pos h2] at hh
        simp only [Bool.and_eq_true] at hh
        exact ⟨by omega, leaf ⟨hh.1.2, hh.2⟩⟩
      rw [if_neg h2] at hh
      by_cases h3 : h.kind = 3 ∨ h.kind = 4
      · rw [if_pos h3] at hke
        simp only [Bool.and_eq_true] at hke
        exact ⟨by omega, ihk _ hke.1 n hn (by omega), ihe _ hke.2 n hn (by omega)⟩
      rw [if_neg h3] at hh
      by_cases h5 : h.kind = 5
      · rw [if_pos h5] at hh
        simp only [Bool.and_eq_true] at hh
        exact ⟨by omega, leaf ⟨hh.1.2, hh.2⟩⟩
      rw [if_neg h5] at hh
      cases hh
    refine ⟨⟨key.1, by omega, by omega, by omega, fun m hm => ?_⟩, key.2.1, key.2.2, ihr _ hr n hn (by omega)⟩
    have := size_nsz hm; omega
theorem read_tmZ (x : By) (hx : x.length ≤ 16384) (t : Tm) (h : parseB badB x = .ok t) : TmZ t := by
  have hck := parse_check cuts badB bad_valid x t h
  have hf : t.main.form true = true ∧ ∀ d ∈ t.defs, d.kids.form false = true := by
    have : ¬ (t.main.form true && t.defs.all fun d => nameOk (bl d.name) && d.kids.form false) = false := by
      intro e
      unfold Tm.check at hck
      rw [if_pos e] at hck
      rcases hck with h | h <;> cases h
    simp only [Bool.not_eq_false, Bool.and_eq_true, List.all_eq_true] at this
    exact ⟨this.1, fun d hd => (this.2 d hd).2⟩
  have hw : wtT t ≤ 32769 := by
    unfold parseB at h
    rw [if_neg (by omega)] at h
    split at h
    · cases h
    · obtain ⟨s, hs, h⟩ := Rs.bind_eq_ok h
      obtain ⟨q, -⟩ := readF_wt _ _ _ _ _ hs (fun c hc => by cases hc)
      unfold finish at h
      split at h
      · cases h
      · split at h
        · cases h
        · cases h
          have e0 : wSt St.start = 1 := rfl
          have e1 : wSt s = wFr s.top + (s.rest.map wFr).sum + wtD s.defs + s.defs.length := rfl
          have e2 : wFr s.top = 1 + wt s.top.kids + wt s.top.fst + s.top.name.length + s.top.names.length + sumL s.top.names := rfl
          unfold wtT
          dsimp only
          omega
  unfold wtT wt at hw
  refine ⟨form_kd t.main _ hf.1 32769 (by omega) (by omega), fun d hd => ?_, ?_, by omega, ?_⟩
  · have h1 := wtD_mem hd
    unfold wt at h1
    exact ⟨by omega, form_kd d.kids _ (hf.2 d hd) 32769 (by omega) (by omega)⟩
  · have := cnt_wt t.main
    have := cntD_wt t.defs
    unfold wt at this
    omega
  · unfold Tm.src
    rw [List.length_append]
    have := src_wt t.main false
    have := srcD_wt t.defs
    omega
end Go.Proofs.YtdgcdjpjnhlihaaGreatDoor
