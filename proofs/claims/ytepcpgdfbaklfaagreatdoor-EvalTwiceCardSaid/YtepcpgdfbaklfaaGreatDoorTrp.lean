/-
  Laws on a range over a function whose body may panic: a piece of code is walked in one frame of a known function; a round that panics hands its panic on through the iterator; so does the statement. No condition.
-/
import Derived.RangeFuncLeaves
import Derived.RangeFuncFrom
set_option linter.unusedVariables false
set_option linter.unusedSimpArgs false
namespace Go.Proofs.YtepcpgdfbaklfaaGreatDoor
open Go Go.RowKit
variable {P : Program} {b : Frame} {n : Nat} {Q : Exit → Act → World → Prop} {a : Act} {w : World}

theorem one_wide {m m' : Machine} (h : step P m = .next m') : StepsIn (Machine.fenced P Fence.wide) P m m' := .one (fenced_wide _ _) h
/-- A piece of code, walked in one frame. -/
def WpAt (b : Frame) (P : Program) (c : Code) (Q : Exit → Act → World → Prop) (a : Act) (w : World) : Prop :=
  ∀ (k : List Item) (cs : List Frame), ∃ e a' w', Q e a' w' ∧ ArrivesIn (Machine.fenced P Fence.wide) P (lone (b.atR a (.code c :: k)) cs w) b k cs e a' w'
theorem WpAt.of {c : Code} (hb : b.roundOf = none) (h : c.wpIn Fence.wide n P Q a w) : WpAt b P c Q a w := fun k cs => h b k cs hb trivial (room_wide _)
theorem WpAt.seq {x y : Code} (n : Nat) (hb : b.roundOf = none) (h : ∀ K : Act → World → Prop, (∀ a w, WpAt b P y Q a w → K a w) → x.wpIn Fence.wide n P (Exit.then K Q) a w) : WpAt b P (.seq x y) Q a w := by
  intro k cs
  obtain ⟨e, a₁, w₁, hq, ha⟩ := h _ (fun _ _ h => h) b (.code y :: k) cs hb trivial (room_wide _)
  have s := one_wide (stepR_seq (P := P) (b := b) (a := a) (k := k) (cs := cs) (w := w) (x := x) (y := y))
  have ps : ∀ e, e ≠ .normal → ArrivesIn (Machine.fenced P Fence.wide) P (lone (b.atR a (.code x :: .code y :: k)) cs w) b (.code y :: k) cs e a₁ w₁ → ArrivesIn (Machine.fenced P Fence.wide) P (lone (b.atR a (.code (.seq x y) :: k)) cs w) b k cs e a₁ w₁ :=
    fun e he hh => .of_steps s (.pass (x := .code y) rfl (fun _ _ => .inl he) hh)
  cases e with
  | normal =>
    obtain ⟨e₂, a₂, w₂, hq₂, h₂⟩ := hq k cs
    exact ⟨e₂, a₂, w₂, hq₂, .of_steps (StepsIn.trans s ha) h₂⟩
  | exit id => exact ⟨_, _, _, hq, ps _ (by simp) ha⟩
  | goto l => exact ⟨_, _, _, hq, ps _ (by simp) ha⟩
  | ret => exact ⟨_, _, _, hq, ps _ (by simp) ha⟩
  | panic ch => exact ⟨_, _, _, hq, ps _ (by simp) ha⟩
  | outgrown => exact ⟨_, _, _, hq, ps _ (by simp) ha⟩
/-- Off its end, or by a panic. -/
def onlyNP (Q : Exit → Act → World → Prop) : Exit → Act → World → Prop
  | .normal, a, w => Q .normal a w
  | .panic ch, a, w => Q (.panic ch) a w
  | _, _, _ => False
theorem WpAt.block {id : Nat} {c : Code} (h : WpAt b P c (onlyNP Q) a w) : WpAt b P (.block id c) Q a w := by
  intro k cs
  obtain ⟨e, a₁, w₁, hq, ha⟩ := h (.inBlock id :: k) cs
  have s := one_wide (stepR_block (P := P) (b := b) (a := a) (k := k) (cs := cs) (w := w) (id := id) (c := c))
  cases e with
  | normal => exact ⟨.normal, a₁, w₁, hq, StepsIn.trans s (StepsIn.trans ha (one_wide stepR_inBlock))⟩
  | panic ch => exact ⟨.panic ch, a₁, w₁, hq, .of_steps s ha⟩
  | exit id => exact hq.elim
  | goto l => exact hq.elim
  | ret => exact hq.elim
  | outgrown => exact hq.elim
/-- The record of a range over a function, and the mark. -/
abbrev recOf (b : Frame) (a : Act) (w : World) (ps : Array Tmp) (assign body : Code) (st : LoopState) : Loop := { state := st, pending := none, fn := b.fn, tmps := a.tmps, params := ps, assign, body, defers := w.heap.size }
abbrev marked (a : Act) (w : World) : Act := { a with defers := { target := .collected w.heap.size, args := #[] } :: a.defers }
theorem WpAt.rangeFunc {g : Operand} {ps : Array Tmp} {assign body : Code} {gf : Nat} {lb : Array Value} (hb : b.roundOf = none) (hg : a.eval g = .func (.func gf) #[] lb) (eg : ∀ args w, (callFunc gf args).run P w = .ok (.enter gf args) w)
    (h : CallsIn Fence.wide n P gf (#[.func (.yield (w.heap.size + 1)) #[] #[]] ++ lb) ((w.alloc (.deferred (some []))).alloc (.loop (recOf b a w ps assign body .ready))) fun e w₃ => match e with
      | .returned _ => ∃ w₄, (Instr.endLoop (w.heap.size + 1)).run P w₃ = .ok none w₄ ∧ Q .normal (marked a w) w₄
      | .panicked ch => Q (.panic ch) (marked a w) w₃
      | .outgrown => False) : WpAt b P (.rangeFunc g ps assign body) Q a w := by
  intro k cs
  have he : (Instr.enterLoop b.fn a.tmps ps assign body b.roundOf).run P w = .ok (w.heap.size + 1, [{ target := .collected w.heap.size, args := #[] }]) ((w.alloc (.deferred (some []))).alloc (.loop (recOf b a w ps assign body .ready))) := by
    rw [hb]; exact run_enterLoop_outer _ _ _ _ _
  have s1 := one_wide (stepR_rangeFunc (P := P) (b := b) (a := a) (k := k) (cs := cs) (w := w) (g := g) (ps := ps) (assign := assign) (body := body)
    (d := { target := .fn (.func gf) lb, args := #[.func (.yield (w.heap.size + 1)) #[] #[]] }) (f := gf) (args := #[.func (.yield (w.heap.size + 1)) #[] #[]] ++ lb) (w₁' := (w.alloc (.deferred (some []))).alloc (.loop (recOf b a w ps assign body .ready))) (w₂ := (w.alloc (.deferred (some []))).alloc (.loop (recOf b a w ps assign body .ready))) he (by
      simp only [resolve, hg]
      simp [go_sem]) (by simp [invoke, go_sem, eg]))
  obtain ⟨e, w₃, fr, hR, hs, hfn, hl⟩ := h.2 (b.atR (marked a w) (.inRangeFunc (w.heap.size + 1) :: k) :: cs) (room_wide _)
  cases e with
  | outgrown => exact hR.elim
  | returned v =>
    obtain ⟨w₄, hend, hq⟩ := hR
    refine ⟨.normal, _, w₄, hq, StepsIn.trans s1 (StepsIn.trans hs (StepsIn.trans (one_wide (step_leave_returned hl)) ?_))⟩
    rw [finish_atR_inRangeFunc]
    exact one_wide (stepR_endRangeFunc hend)
  | panicked chain =>
    refine ⟨.panic chain, _, w₃, hR, .inRangeFunc (w.heap.size + 1) :: k, StepsIn.trans s1 (StepsIn.trans hs ?_)⟩
    have := step_leave_panicked (c := b.atR (marked a w) (.inRangeFunc (w.heap.size + 1) :: k)) (cs := cs) hl
    rw [Frame.raise_atR] at this
    exact one_wide this
/-- A function's contract, its body walked in the function's own frame. -/
theorem calls_at {f : FuncId} {fn : Func} {c : Code} {args : Array Value} {R : Ending → World → Prop} (n : Nat) (hf : P.funcs[f]? = some fn) (hbd : fn.body = some c)
    (h : ∀ b : Frame, b.fn = f → b.roundOf = none → WpAt b P c (bodyPostM Fence.wide n P fn R) { tmps := args ++ Array.replicate (fn.ntmps - args.size) undef, defers := [] } w) : Calls P f args w R := by
  refine (callsIn_wide (n := n)).1 ⟨trivial, fun cs hr => ?_⟩
  obtain ⟨b, hbe⟩ : ∃ b : Frame, b = { (default : Frame) with fn := f, kind := .normal, roundOf := none } := ⟨_, rfl⟩
  have henter : Frame.enter P f args .normal = b.atR { tmps := args ++ Array.replicate (fn.ntmps - args.size) undef, defers := [] } [.code c] := by
    rw [hbe]; simp [Frame.enter, Frame.atR, hf, hbd]
  have hbf : b.fn = f := by rw [hbe]
  have hbr : b.roundOf = none := by rw [hbe]
  have hbk : b.kind = .normal := by rw [hbe]
  obtain ⟨e, a', w', hq, harr⟩ := h b hbf hbr [] cs
  rw [← henter] at harr
  have go : ∀ (u : FrameMode) (todo : List Item), LeavesInM Fence.wide n P fn a'.tmps R a'.defers u w' → StepsIn (Machine.fenced P Fence.wide) P (lone (Frame.enter P f args .normal) cs w) (lone { b.atR a' todo with mode := u } cs w') →
      ∃ e w'' fr, R e w'' ∧ ComesIn (Machine.fenced P Fence.wide) P (lone (Frame.enter P f args .normal) cs w) (lone fr cs w'') e ∧ fr.fn = f ∧ fr.leaving P w'' e := by
    intro u todo hL hs
    obtain ⟨e', w'', fr', hR, hs', hfn, hl⟩ := leaves_stepsInM a'.defers u w' { b.atR a' todo with mode := u } cs rfl rfl rfl (by show P.funcs[b.fn]? = _; rw [hbf]; exact hf) hbk trivial hr hL
    exact ⟨e', w'', fr', hR, ComesIn.of_steps hs hs', hfn.trans hbf, hl⟩
  cases e with
  | normal => exact go .returning [] hq (StepsIn.trans harr (one_wide (stepR_end hbr)))
  | ret => obtain ⟨todo, hs⟩ := harr.1 hbr; exact go .returning todo hq hs
  | panic chain => obtain ⟨todo, hs⟩ := harr; exact go (.panicking chain) todo hq hs
  | exit id => exact hq.elim
  | goto l => exact hq.elim
  | outgrown => exact ⟨.outgrown, w', b, hq, harr.resolve_left (by rw [hbk]; simp), hbf, trivial⟩
/-- What is asked at the end of a round that is left off its end, or by a panic. -/
def pPost (P : Program) (l : Nat) (R : Ending → World → Prop) : Exit → Act → World → Prop
  | .normal, _, w => ∃ v w', (Instr.endRound l none).run P w = .ok v w' ∧ R (.returned v) w'
  | .panic ch, a, w => a.defers = [] ∧ R (.panicked ch) w
  | _, _, _ => False
theorem round_at {l : Nat} {f : FuncId} {fn : Func} {tmps : Array Value} {assign body : Code} {R : Ending → World → Prop} (hf : P.funcs[f]? = some fn)
    (h : assign.wpIn (Fence.wide.inRound l) n P (Exit.then (fun a₁ w₁ => ∃ w₂, (Instr.beginRound l).run P w₁ = .ok () w₂ ∧ body.wpIn (Fence.wide.inRound l) n P (pPost P l R) a₁ w₂) (fun _ _ _ => False)) { tmps := tmps, defers := [] } w) :
    RoundIn Fence.wide n P l f tmps assign body w R := by
  refine ⟨trivial, fun c cs hr => ?_⟩
  have hr' : (Fence.wide.inRound l).room ((c :: cs).length + 1 + n) := hr
  obtain ⟨b, hbe⟩ : ∃ b : Frame, b = { (default : Frame) with fn := f, kind := .normal, roundOf := some l } := ⟨_, rfl⟩
  have hb0 : Frame.round l f tmps assign body .normal = b.atR { tmps := tmps, defers := [] } [.code assign, .beginRound, .code body] := by
    rw [hbe]; simp [Frame.round, Frame.atR]
  have hbf : b.fn = f := by rw [hbe]
  have hbr : b.roundOf = some l := by rw [hbe]
  have hbk : b.kind = .normal := by rw [hbe]
  obtain ⟨e, a₁, w₁, hq, harr⟩ := h b [.beginRound, .code body] (c :: cs) hbr trivial hr'
  rw [← hb0] at harr
  cases e with
  | normal =>
    obtain ⟨w₂, hbg, hbody⟩ := hq
    obtain ⟨e₂, a₂, w₃, hq₂, h₂⟩ := hbody b [] (c :: cs) hbr trivial hr'
    have s : StepsIn (Machine.fenced P Fence.wide) P (lone (Frame.round l f tmps assign body .normal) (c :: cs) w) (lone (b.atR a₁ [.code body]) (c :: cs) w₂) := StepsIn.trans harr (one_wide (stepR_beginRound hbr hbg))
    cases e₂ with
    | normal =>
      obtain ⟨v, w₄, hend, hR⟩ := hq₂
      exact ⟨.returned v, w₄, hR, StepsIn.trans s (StepsIn.trans h₂ (one_wide (stepR_round_end hbr hbk hend)))⟩
    | panic ch =>
      obtain ⟨hd, hR⟩ := hq₂
      obtain ⟨todo, hs⟩ := h₂
      refine ⟨.panicked ch, w₃, hR, StepsIn.trans s (StepsIn.trans hs (one_wide (step_leave_panicked ⟨rfl, hd, fn, ?_⟩)))⟩
      show P.funcs[b.fn]? = _
      rw [hbf]; exact hf
    | exit id => exact hq₂.elim
    | goto l => exact hq₂.elim
    | ret => exact hq₂.elim
    | outgrown => exact hq₂.elim
  | exit id => exact hq.elim
  | goto l => exact hq.elim
  | ret => exact hq.elim
  | panic ch => exact hq.elim
  | outgrown => exact hq.elim
end Go.Proofs.YtepcpgdfbaklfaaGreatDoor
