/-
  Slices of bytes that the call makes itself: what append and the conversion to a text do to them. The condition: at most 2 to the 47th bytes.
-/
import Derived.Test.YteffnlelmcbgmaaDoorRet
import Derived.Test.YteffnlelmcbgmaaDoorLib
import Derived.Test.YteffnlelmcbgmaaDoorMath
import Derived.WalkKit
import Derived.WalkSpells
import Derived.WalkLawsBesides
import Derived.Lib.Hide
import Derived.Outline
import Derived.Deep.RegionWith
import Derived.Deep.RegionLaw
import Derived.Laws.BytesArg
import Derived.Lib.BufferWrite
import Derived.Lib.AppendStr
set_option linter.unusedVariables false
namespace Go.Proofs.YteffnlelmcbgmaaDoor
open Go.RowKit

/-- A slice of bytes of the call's own, from block B on, that holds the bytes l. -/
def OwnB (B : Nat) (v : Value) (l : List UInt8) (w : World) : Prop := w.ownsRow B 5 1 v l.length (Lib.byteCells l)

theorem OwnB.nil (B : Nat) (w : World) : OwnB B (.slice none 0 0) [] w := World.ownsRow_nil _ _ _ _
theorem OwnB.alloc {B : Nat} {v : Value} {l : List UInt8} {w : World} (h : OwnB B v l w) (o : Obj) : OwnB B v l (w.alloc o) := World.ownsRow.alloc h o
theorem OwnB.drew {B : Nat} {v : Value} {l : List UInt8} {w : World} (h : OwnB B v l w) : OwnB B v l w.drew := h

theorem OwnB.below {B : Nat} {v : Value} {l : List UInt8} {w w' w0 : World} (h : OwnB B v l w) (hb : Below B w0 w) (hB : B ≤ w.heap.size) (hg : w.grownBy w' v.ownBlock) : Below B w0 w' :=
  hb.grown hg hB (fun k hk => (World.ownsRow.lt h k hk).1)

theorem OwnB.shape {B : Nat} {v : Value} {l : List UInt8} {w : World} (h : OwnB B v l w) : ∃ a c, v = .slice a l.length c := by
  rcases h.2 with ⟨rfl, hn⟩ | ⟨g, cap, cur, rfl, _⟩
  · exact ⟨none, 0, by rw [hn]⟩
  · exact ⟨_, _, rfl⟩

theorem OwnB.text {B : Nat} {v : Value} {l : List UInt8} {w : World} (h : OwnB B v l w) : (convert 52 9 v).run Tryd.prog w = .ok (.string ⟨l.toArray⟩) w := by
  rcases h.2 with ⟨rfl, hn⟩ | ⟨g, cap, cur, rfl, _⟩
  · have hl : l = [] := by simpa using hn
    subst hl
    rw [run_convert_bytes_nil w 52 5 Tryd.underlying52 Tryd.underlying5 0 0 9 Tryd.underlying9]
    rfl
  · have hc := World.ownsRow.cells h (g := g) rfl
    have := run_convert_bytes_arg (P := Tryd.prog) w 52 5 Tryd.underlying52 Tryd.underlying5 g 0 l.length cap (l.map fun b => (b.toNat : Int)) (by simp) (by
      intro i hi
      have h1 := hc i (.int .u8 (l[i].toNat : Int)) (by simp [Lib.byteCells, hi])
      have hadd : (⟨g, 0, none⟩ : Addr).add i = ⟨g, i, none⟩ := by unfold Addr.add; split <;> simp_all
      rw [hadd] at h1
      rw [Nat.zero_add, h1]
      simp [List.getD, hi]) 9 Tryd.underlying9
    rw [this]
    have e : strOfNums (l.map fun b => (b.toNat : Int)) = ⟨l.toArray⟩ := by
      unfold strOfNums
      congr 2
      rw [List.map_map]
      conv => rhs; rw [← List.map_id l]
      apply List.map_congr_left
      intro b _
      simp
    rw [e]

/-- append of bytes that lie somewhere to a slice of the call's own, as one step of a list of operations. -/
theorem app_list {ops : Array Oper} {rest : List Oper} {o : Oper} {a : Act} {w : World} {Q : Exit → Act → World → Prop} (hgd : o.guard = none) (s x : Operand)
    (ho : o.op = .call { callee := .builtin .append, args := #[s, x], argTypes := #[52, 52] })
    (B : Nat) (v : Value) (l : List UInt8) (hs : a.eval s = v) (hown : OwnB B v l w)
    (ad : Addr) (m c : Nat) (news : List UInt8) (hx : a.eval x = .slice (some ad) m c) (hl : news.length = m) (hnews : ∀ j u, (Lib.byteCells news)[j]? = some u → w.cell? (ad.add j) = some u)
    (hlen : l.length + m ≤ 140737488355328) (hB : B ≤ w.heap.size)
    (h : ∀ v' w', OwnB B v' (l ++ news) w' → w.grownBy w' v.ownBlock → wpList Tryd.prog ops Q rest (a.put o.dst v') w') : wpList Tryd.prog ops Q (o :: rest) a w := by
  obtain ⟨i0, hi, hz0, hz1, hz2⟩ := info_parts Lb.extra.infoByte
  refine wpList_append_own w hgd s x 52 ho B 5 i0 (.int .u8 0) 1 1 Tryd.underlying52 hi hz0 hz1 hz2 rfl (by decide) v l.length (Lib.byteCells l) hs hown ad m c (Lib.byteCells news) hx (by rw [Lib.byteCells_length]; omega) hnews (Lib.byteCells_one news) (by unfold maxLen; omega) (by omega) hB ?_
  intro v' w' h1 h2 _
  refine h v' w' ?_ h2
  unfold OwnB
  rw [Lib.byteCells_append, List.length_append, hl]
  exact h1

/-- The same as a step of a region that draws its order. -/
theorem app_step {ops : Array Oper} {o : Oper} {a : Act} {w : World} {K : Act → World → Prop} {Q : Exit → Act → World → Prop} {E : Prop} (hgd : o.guard = none) (s x : Operand)
    (ho : o.op = .call { callee := .builtin .append, args := #[s, x], argTypes := #[52, 52] })
    (B : Nat) (v : Value) (l : List UInt8) (hs : a.eval s = v) (hown : OwnB B v l w)
    (ad : Addr) (m c : Nat) (news : List UInt8) (hx : a.eval x = .slice (some ad) m c) (hl : news.length = m) (hnews : ∀ j u, (Lib.byteCells news)[j]? = some u → w.cell? (ad.add j) = some u)
    (hlen : l.length + m ≤ 140737488355328) (hB : B ≤ w.heap.size)
    (h : ∀ v' w', OwnB B v' (l ++ news) w' → w.grownBy w' v.ownBlock → K (a.put o.dst v') w') :
    if Region.wanted o (yielded ops a.tmps) = true then Oper.wp Tryd.prog o a w K Q else E := by
  have hw : Region.wanted o (yielded ops a.tmps) = true := by simp [Region.wanted, hgd]
  rw [if_pos hw]
  obtain ⟨i0, hi, hz0, hz1, hz2⟩ := info_parts Lb.extra.infoByte
  refine wp_append_own w s x 52 ho B 5 i0 (.int .u8 0) 1 1 Tryd.underlying52 hi hz0 hz1 hz2 rfl (by decide) v l.length (Lib.byteCells l) hs hown ad m c (Lib.byteCells news) hx (by rw [Lib.byteCells_length]; omega) hnews (Lib.byteCells_one news) (by unfold maxLen; omega) (by omega) hB ?_
  intro v' w' h1 h2 _
  refine h v' w' ?_ h2
  unfold OwnB
  rw [Lib.byteCells_append, List.length_append, hl]
  exact h1

/-- The cells of a block that has just been laid. -/
theorem new_cells (w : World) (l : List UInt8) : ∀ j u, (Lib.byteCells l)[j]? = some u → (w.alloc (.cells (Lib.byteCells l).toArray 5)).cell? ((⟨w.heap.size, 0, none⟩ : Addr).add j) = some u := by
  intro j u h
  have hb := heap_alloc_new w (.cells (Lib.byteCells l).toArray 5)
  have hadd : (⟨w.heap.size, 0, none⟩ : Addr).add j = ⟨w.heap.size, j, none⟩ := by unfold Addr.add; split <;> simp_all
  rw [hadd, Lib.cell_of_heap hb]
  simpa using h
end Go.Proofs.YteffnlelmcbgmaaDoor
