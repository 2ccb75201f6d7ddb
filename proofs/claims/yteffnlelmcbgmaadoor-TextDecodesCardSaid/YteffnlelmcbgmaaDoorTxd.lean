/-
  The contract of text.Decode. The condition: the bytes take at most 2 to the 40th bytes; the two tables of unicode/utf8 read as they were laid.
-/
import Derived.Test.YteffnlelmcbgmaaDoorTxp
import Derived.Shelf.Strings.BuilderRune
set_option linter.unusedVariables false
namespace Go.Proofs.YteffnlelmcbgmaaDoor
open Go.RowKit Go.Shelf

attribute [local go_sem] Oper.semAt_some

/-- The bytes of code points. -/
def encs (l : List (Nat × Int)) : List UInt8 := l.flatMap fun x => Lib.encodeRune (clp x.2)
def decd (l : List UInt8) : List UInt8 := encs (pts l)
theorem encs_snoc (l : List (Nat × Int)) (x : Nat × Int) : encs (l ++ [x]) = encs l ++ Lib.encodeRune (clp x.2) := by simp [encs]

/-- A builder of the call's own (String may have read it), in block b, that holds the bytes l. -/
def BdF (B b : Nat) (l : List UInt8) (w : World) : Prop := Lib.IsBuilderF 54 5 B b (Lib.byteCells l) w
theorem BdF.fresh (w : World) : BdF w.heap.size w.heap.size [] (w.alloc (.cells #[.pointer none, .slice none 0 0] 54)) := Lib.IsBuilderF.of (Lib.fresh_isBuilder _ _ w)
theorem BdF.alloc {B b : Nat} {l : List UInt8} {w : World} (h : BdF B b l w) (o : Obj) : BdF B b l (w.alloc o) := Lib.IsBuilderF.alloc h o
theorem writeRune_calls (B b : Nat) (l : List UInt8) (r : Int) (hr0 : -2147483648 ≤ r) (hr1 : r ≤ 2147483647) (w : World) (h : BdF B b l w) (hlen : l.length + 4 ≤ 140737488355328) (hBw : B ≤ w.heap.size) :
    Calls Tryd.prog 38 #[.pointer (some ⟨b, 0, none⟩), .int .i32 r] w fun e w' => (∃ m : Int, e = .returned (.tuple #[.int .i64 m, .nilIface])) ∧ BdF B b (l ++ Lib.encodeRune r) w' ∧ Below B w w' ∧ Lib.OthersKept 5 (some b) w w' := by
  refine (Any.Builder_WriteRune_k Lb.n168 Lb.extra B b _ r hr0 hr1 w h (by rw [Lib.byteCells_length]; exact hlen) hBw).mono ?_
  rintro e w' ⟨rfl, h1, h2, h3⟩
  refine ⟨⟨_, rfl⟩, .inr ?_, h2, h3⟩
  rw [Lib.byteCells_append, Lib.byteCells_encodeRune]
  exact h1
theorem writeByteF_calls (B b : Nat) (l : List UInt8) (c : UInt8) (w : World) (h : BdF B b l w) (hlen : l.length + 1 ≤ 140737488355328) (hBw : B ≤ w.heap.size) :
    Calls Tryd.prog 37 #[.pointer (some ⟨b, 0, none⟩), .int .u8 c.toNat] w fun e w' => e = .returned .nilIface ∧ BdF B b (l ++ [c]) w' ∧ Below B w w' ∧ Lib.OthersKept 5 (some b) w w' := by
  refine (Any.Builder_WriteByte_k Lb.n167 Lb.extra B b _ c.toNat w h (by rw [Lib.byteCells_length]; exact hlen) hBw).mono ?_
  rintro e w' ⟨rfl, h1, h2, h3⟩
  refine ⟨rfl, .inr ?_, h2, h3⟩
  rw [Lib.byteCells_append]
  exact h1
theorem stringF_calls (B b : Nat) (l : List UInt8) (w : World) (h : BdF B b l w) (hBw : B ≤ w.heap.size) :
    Calls Tryd.prog 39 #[.pointer (some ⟨b, 0, none⟩)] w fun e w' => e = .returned (.string ⟨l.toArray⟩) ∧ Below B w w' ∧ Lib.OthersKept 5 (some b) w w' :=
  (Any.Builder_String_any_k Lb.n169 Lb.extra B b l w h hBw).mono fun e w' h => ⟨h.1, h.2.2.1, h.2.2.2⟩

theorem enc_rune_le (r : Int) : 1 ≤ (Lib.encodeRune r).length ∧ (Lib.encodeRune r).length ≤ 4 := by
  have := Lib.runeCells_le r
  rwa [Lib.runeCells_length] at this
theorem encs_le (l : List (Nat × Int)) : (encs l).length ≤ 4 * l.length := by
  induction l with
  | nil => simp [encs]
  | cons x l ih =>
    have := enc_rune_le (clp x.2)
    simp only [encs, List.flatMap_cons, List.length_append, List.length_cons] at ih ⊢
    omega
theorem ptsF_le (f k : Nat) (l : List UInt8) : (ptsF f k l).length ≤ l.length := by
  induction f generalizing k l with
  | zero => simp [ptsF]
  | succ f ih =>
    unfold ptsF
    split
    · simp
    · rename_i h
      have := pc_range l h
      have := ih (k + (pc l).1) (l.drop (pc l).1)
      simp at this ⊢
      omega
theorem pts_le (l : List UInt8) : (pts l).length ≤ l.length := ptsF_le _ _ _

/-- A builder, a block of cells abide the turn of what is no cells. -/
theorem bdF_own {β : Type} (B b : Nat) (f : β → List UInt8) : Own (fun (s : β) W => BdF B b (f s) W) := by
  intro s W W' row h hg hr
  have hne : ∀ k (cs : Array Value) (T : TypeId) (fr : Nat × Nat), W.heap[k]? = some (.cells cs T fr) → some k ≠ row := by
    intro k cs T fr hk e
    obtain ⟨o, ho, hc⟩ := hr k e.symm
    rw [hk] at ho
    cases ho
    simp [Obj.isCells] at hc
  have step : ∀ p, Lib.BuilderAtF 54 5 B b p (Lib.byteCells (f s)) W → Lib.BuilderAtF 54 5 B b p (Lib.byteCells (f s)) W' := by
    intro p h
    have hlt := h.lt
    obtain ⟨hB, v, hb, hown, hn⟩ := h
    refine ⟨hB, v, (hg.block b hlt (fun e => hne b _ _ _ hb e)).trans hb, hown.kept hg ?_, hn⟩
    rcases hown.2 with ⟨rfl, _⟩ | ⟨g, cap, cur, fr, rfl, hx, hgg, _⟩
    · exact .inl rfl
    · exact .inr (fun e => hne g _ _ _ hgg e)
  exact h.imp (step _) (step _)
theorem BdF.cells {B b : Nat} {l : List UInt8} {w : World} (h : BdF B b l w) : ∃ cs fr, w.heap[b]? = some (.cells cs 54 fr) := by
  rcases h with ⟨_, v, hb, _⟩ | ⟨_, v, hb, _⟩ <;> exact ⟨_, _, hb⟩
theorem BdF.lt {B b : Nat} {l : List UInt8} {w : World} (h : BdF B b l w) : b < w.heap.size := by
  obtain ⟨cs, fr, hb⟩ := h.cells
  exact (Array.getElem?_eq_some_iff.1 hb).1
theorem BdF.kept {B b : Nat} {l : List UInt8} {w w' : World} (h : BdF B b l w) {D : Nat} (hD : D < B) (hg : w.grownBy w' (some D)) : BdF B b l w' := by
  have step : ∀ p, Lib.BuilderAtF 54 5 B b p (Lib.byteCells l) w → Lib.BuilderAtF 54 5 B b p (Lib.byteCells l) w' := by
    intro p h
    have hlt := h.lt
    obtain ⟨hB, v, hb, hown, hn⟩ := h
    refine ⟨hB, v, (hg.block b hlt (fun e => by cases e; omega)).trans hb, hown.kept hg ?_, hn⟩
    rcases hown.2 with ⟨rfl, _⟩ | ⟨g, cap, cur, fr, rfl, hx, _⟩
    · exact .inl rfl
    · exact .inr (fun e => by simp [Value.ownBlock] at e; omega)
  exact h.imp (step _) (step _)
theorem grown_setCell (w : World) (D j : Nat) (v : Value) : w.grownBy (w.setCell ⟨D, j, none⟩ v) (some D) :=
  ⟨rfl, rfl, rfl, by simp [World.setCell], fun k _ hk => Below.heap_setCell _ _ _ _ (fun e => hk (by simp at e; simp [e]))⟩
theorem BdF.setCell {B b : Nat} {l : List UInt8} {w : World} (h : BdF B b l w) {D : Nat} (hD : D < B) (j : Nat) (v : Value) : BdF B b l (w.setCell ⟨D, j, none⟩ v) := h.kept hD (grown_setCell w D j v)
theorem keeps_of {B b : Nat} {l : List UInt8} {W W2 : World} (h : BdF B b l W) (hk : Lib.OthersKept 5 (some b) W W2) (hs : W.heap.size ≤ W2.heap.size) : KeepsOthers W W2 := by
  obtain ⟨cs, fr, hb⟩ := h.cells
  refine ⟨hs, fun k o ho hc => hk k o ho ?_ ?_⟩
  · intro e
    cases e
    rw [hb] at ho
    cases ho
    simp [Obj.isCells] at hc
  · intro c fz e
    subst e
    simp [Obj.isCells] at hc
theorem kp3_kept {B b Bs : Nat} {W W2 : World} {v : Value} (hBs : W.heap[Bs]? = some (.cells #[v] 9 (0, 0))) (hne : Bs ≠ b) (hk : Lib.OthersKept 5 (some b) W W2) (hb : Below B W W2) (h1 : 0 < B) (h2 : 1 < B) : Kp3 Bs W W2 := by
  intro k hk'
  rcases hk' with rfl | rfl | rfl
  · exact (hk _ _ hBs (fun e => hne (by cases e; rfl)) (by intro c fz e; cases e)).trans hBs.symm
  · exact hb.block _ h1
  · exact hb.block _ h2
theorem block_own {β : Type} (b : Nat) (cs : Array Value) (T : TypeId) (fr : Nat × Nat) : Own (fun (_ : β) W => W.heap[b]? = some (.cells cs T fr)) := by
  intro s W W' row h hg hr
  refine (hg.block b (Array.getElem?_eq_some_iff.1 h).1 ?_).trans h
  intro e
  obtain ⟨o, ho, hc⟩ := hr b e.symm
  rw [h] at ho
  cases ho
  simp [Obj.isCells] at hc
end Go.Proofs.YteffnlelmcbgmaaDoor
