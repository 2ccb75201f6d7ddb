/-
  A DOCTYPE that is being taken, in memory; contracts of mark.declaration's small methods. The condition: the text takes at most 2 to the 40th bytes.
-/
import Derived.Test.YtileclmmobkcaaaDoorMsp
import Derived.Test.YtileclmmobkcaaaDoorMlo
import Derived.Test.YtileclmmobkcaaaDoorMwh
import Derived.Deep.LoopGhost
import Derived.Deep.Draws
import Derived.OwnWalk
import Derived.Laws.AppendOwn
set_option linter.unusedVariables false
namespace Go.Proofs.YtileclmmobkcaaaDoor
open Go.RowKit Go.Shelf

/-! ### Only one block has turned -/
theorem gb_trans {D : Nat} {a b c : World} (h : a.grownBy b (some D)) (k : b.grownBy c (some D)) : a.grownBy c (some D) :=
  ⟨k.os.trans h.os, k.tape.trans h.tape, k.output.trans h.output, Nat.le_trans h.size k.size, fun i hi hn => (k.block i (Nat.lt_of_lt_of_le hi h.size) hn).trans (h.block i hi hn)⟩
theorem gb_alloc {D : Nat} {a b : World} (h : a.grownBy b (some D)) (o : Obj) : a.grownBy (b.alloc o) (some D) := gb_trans h (World.grownBy_alloc b o _)
theorem gb_drewN {D : Nat} {a b : World} (h : a.grownBy b (some D)) (n : Nat) : a.grownBy (b.drewN n) (some D) := ⟨h.os, h.tape, h.output, h.size, h.block⟩
theorem gb_set {D : Nat} {a b : World} (h : a.grownBy b (some D)) (j : Nat) (v : Value) : a.grownBy (b.setCell ⟨D, j, none⟩ v) (some D) :=
  gb_trans h ⟨rfl, rfl, rfl, by simp [World.setCell], fun k _ hn => Below.heap_setCell _ _ _ _ (fun e => hn (by rw [e]))⟩
theorem gb_new {D : Nat} {a b : World} (h : a.grownBy b (some D)) (p : Addr) (hp : a.heap.size ≤ p.block) (v : Value) : a.grownBy (b.setCell p v) (some D) :=
  ⟨h.os, h.tape, h.output, by simpa [World.setCell] using h.size, fun k hk hn => (Below.heap_setCell _ _ _ _ (by omega)).trans (h.block k hk hn)⟩
theorem gb_of_below {D : Nat} {a b : World} (h : Below a.heap.size a b) : a.grownBy b (some D) := ⟨h.os, h.tape, h.output, h.size, fun k hk _ => h.block k hk⟩
theorem gb_below {D B : Nat} {a b : World} (h : a.grownBy b (some D)) (hB : B ≤ a.heap.size) (hD : B ≤ D) : Below B a b := ⟨h.os, h.tape, h.output, h.size, fun k hk => h.block k (by omega) (by simp; omega)⟩
theorem gb_block {D b : Nat} {a c : World} (h : a.grownBy c (some D)) {o : Obj} (hb : a.heap[b]? = some o) (hn : b ≠ D) : c.heap[b]? = some o :=
  (h.block b (lt_of_block hb) (by simpa using hn)).trans hb
theorem below_alloc_l {a b : World} {o : Obj} (h : Below (a.alloc o).heap.size (a.alloc o) b) : Below a.heap.size a b :=
  ((Below.refl _ a).alloc (Nat.le_refl _) o).trans (h.mono (by simp))

/-! ### A DOCTYPE in memory -/
def tkCells (t : Tk) : Array Value := #[.int .u8 t.kind, .string ⟨t.name.toArray⟩, .slice none 0 0, .bool false, .string ⟨t.text.toArray⟩, .string ⟨t.pub.toArray⟩, .string ⟨t.sys.toArray⟩, .bool t.hp, .bool t.hs, .bool t.q]
/-- Block D is a declaration: the text, the place, the token. -/
def Dc (D : Nat) (s : ByteArray) (n : Nat) (t : Tk) (w : World) : Prop :=
  w.heap[D]? = some (.cells #[.string s, .int .i64 n, .int .u8 t.kind, .string ⟨t.name.toArray⟩, .slice none 0 0, .bool false, .string ⟨t.text.toArray⟩, .string ⟨t.pub.toArray⟩, .string ⟨t.sys.toArray⟩, .bool t.hp, .bool t.hs, .bool t.q] 38 (0, 0))
/-- What stands behind a place. -/
structure Ps (s : ByteArray) (n : Nat) (r : List UInt8) : Prop where
  le : n ≤ s.size
  eq : s.data.toList.drop n = r
theorem Ps.len {s : ByteArray} {n : Nat} {r : List UInt8} (h : Ps s n r) : n + r.length = s.size := by
  rw [← h.eq, List.length_drop]
  have := h.le
  have e : s.data.toList.length = s.size := by simp
  omega
theorem Ps.cons {s : ByteArray} {n : Nat} {c : UInt8} {r : List UInt8} (h : Ps s n (c :: r)) : ∃ hn : n < s.size, s[n] = c ∧ Ps s (n + 1) r := by
  have hl := h.len
  have hn : n < s.size := by simp at hl; omega
  refine ⟨hn, ?_, by omega, ?_⟩
  · have e := h.eq
    have h1 : n < s.data.toList.length := by simpa using hn
    rw [List.drop_eq_getElem_cons h1] at e
    injection e with e1 e2
  · have : s.data.toList.drop (n + 1) = (s.data.toList.drop n).drop 1 := by rw [List.drop_drop]
    rw [this, h.eq]; rfl
theorem Ps.nil {s : ByteArray} {n : Nat} (h : Ps s n []) : n = s.size := by have := h.len; simpa using this
/-- The place behind n bytes more. -/
theorem Ps.drop {s : ByteArray} {n : Nat} {r : List UInt8} (h : Ps s n r) (k : Nat) (hk : k ≤ r.length) : Ps s (n + k) (r.drop k) := by
  have hl := h.len
  refine ⟨by omega, ?_⟩
  rw [← h.eq, List.drop_drop]

theorem Dc.c0 {D : Nat} {s : ByteArray} {n : Nat} {t : Tk} {w : World} (h : Dc D s n t w) : w.cell? ⟨D, 0, none⟩ = some (.string s) := by rw [cell_of_heap' h]; rfl
theorem Dc.c1 {D : Nat} {s : ByteArray} {n : Nat} {t : Tk} {w : World} (h : Dc D s n t w) : w.cell? ⟨D, 1, none⟩ = some (.int .i64 n) := by rw [cell_of_heap' h]; rfl
theorem Dc.c2 {D : Nat} {s : ByteArray} {n : Nat} {t : Tk} {w : World} (h : Dc D s n t w) : w.cell? ⟨D, 2, none⟩ = some (.int .u8 t.kind) := by rw [cell_of_heap' h]; rfl
theorem Dc.c3 {D : Nat} {s : ByteArray} {n : Nat} {t : Tk} {w : World} (h : Dc D s n t w) : w.cell? ⟨D, 3, none⟩ = some (.string ⟨t.name.toArray⟩) := by rw [cell_of_heap' h]; rfl
theorem Dc.c7 {D : Nat} {s : ByteArray} {n : Nat} {t : Tk} {w : World} (h : Dc D s n t w) : w.cell? ⟨D, 7, none⟩ = some (.string ⟨t.pub.toArray⟩) := by rw [cell_of_heap' h]; rfl
theorem Dc.c8 {D : Nat} {s : ByteArray} {n : Nat} {t : Tk} {w : World} (h : Dc D s n t w) : w.cell? ⟨D, 8, none⟩ = some (.string ⟨t.sys.toArray⟩) := by rw [cell_of_heap' h]; rfl
theorem Dc.c9 {D : Nat} {s : ByteArray} {n : Nat} {t : Tk} {w : World} (h : Dc D s n t w) : w.cell? ⟨D, 9, none⟩ = some (.bool t.hp) := by rw [cell_of_heap' h]; rfl
theorem Dc.c10 {D : Nat} {s : ByteArray} {n : Nat} {t : Tk} {w : World} (h : Dc D s n t w) : w.cell? ⟨D, 10, none⟩ = some (.bool t.hs) := by rw [cell_of_heap' h]; rfl
theorem Dc.c11 {D : Nat} {s : ByteArray} {n : Nat} {t : Tk} {w : World} (h : Dc D s n t w) : w.cell? ⟨D, 11, none⟩ = some (.bool t.q) := by rw [cell_of_heap' h]; rfl
theorem Dc.fz {D : Nat} {s : ByteArray} {n : Nat} {t : Tk} {w : World} (h : Dc D s n t w) : ∀ j, w.frozen? ⟨D, j, none⟩ = false := frozen_cells h
theorem Dc.lt {D : Nat} {s : ByteArray} {n : Nat} {t : Tk} {w : World} (h : Dc D s n t w) : D < w.heap.size := lt_of_block h
theorem Dc.drewN {D : Nat} {s : ByteArray} {n : Nat} {t : Tk} {w : World} (h : Dc D s n t w) (k : Nat) : Dc D s n t (w.drewN k) := h
theorem Dc.setAt {D : Nat} {s : ByteArray} {n : Nat} {t : Tk} {w : World} (h : Dc D s n t w) (m : Nat) : Dc D s m t (w.setCell ⟨D, 1, none⟩ (.int .i64 m)) := by
  unfold Dc at h ⊢
  simp [World.setCell, Array.getElem?_modify, h]
theorem Dc.setQ {D : Nat} {s : ByteArray} {n : Nat} {t : Tk} {w : World} (h : Dc D s n t w) : Dc D s n { t with q := true } (w.setCell ⟨D, 11, none⟩ (.bool true)) := by
  unfold Dc at h ⊢
  simp [World.setCell, Array.getElem?_modify, h]
theorem Dc.setP {D : Nat} {s : ByteArray} {n : Nat} {t : Tk} {w : World} (h : Dc D s n t w) (x : List UInt8) : Dc D s n { t with pub := x } (w.setCell ⟨D, 7, none⟩ (.string ⟨x.toArray⟩)) := by
  unfold Dc at h ⊢
  simp [World.setCell, Array.getElem?_modify, h]
theorem Dc.setS {D : Nat} {s : ByteArray} {n : Nat} {t : Tk} {w : World} (h : Dc D s n t w) (x : List UInt8) : Dc D s n { t with sys := x } (w.setCell ⟨D, 8, none⟩ (.string ⟨x.toArray⟩)) := by
  unfold Dc at h ⊢
  simp [World.setCell, Array.getElem?_modify, h]
theorem Dc.setN {D : Nat} {s : ByteArray} {n : Nat} {t : Tk} {w : World} (h : Dc D s n t w) (x : List UInt8) : Dc D s n { t with name := x } (w.setCell ⟨D, 3, none⟩ (.string ⟨x.toArray⟩)) := by
  unfold Dc at h ⊢
  simp [World.setCell, Array.getElem?_modify, h]
theorem Dc.setHP {D : Nat} {s : ByteArray} {n : Nat} {t : Tk} {w : World} (h : Dc D s n t w) : Dc D s n { t with hp := true } (w.setCell ⟨D, 9, none⟩ (.bool true)) := by
  unfold Dc at h ⊢
  simp [World.setCell, Array.getElem?_modify, h]
theorem Dc.setHS {D : Nat} {s : ByteArray} {n : Nat} {t : Tk} {w : World} (h : Dc D s n t w) : Dc D s n { t with hs := true } (w.setCell ⟨D, 10, none⟩ (.bool true)) := by
  unfold Dc at h ⊢
  simp [World.setCell, Array.getElem?_modify, h]
theorem Dc.setK {D : Nat} {s : ByteArray} {n : Nat} {t : Tk} {w : World} (h : Dc D s n t w) : Dc D s n { t with kind := 5 } (w.setCell ⟨D, 2, none⟩ (.int .u8 5)) := by
  unfold Dc at h ⊢
  simp [World.setCell, Array.getElem?_modify, h]
theorem Dc.alloc {D : Nat} {s : ByteArray} {n : Nat} {t : Tk} {w : World} (h : Dc D s n t w) (o : Obj) : Dc D s n t (w.alloc o) := (Below.heap_alloc w o D h.lt).trans h
theorem Dc.below {D : Nat} {s : ByteArray} {n : Nat} {t : Tk} {w w' : World} (h : Dc D s n t w) (hb : Below w.heap.size w w') : Dc D s n t w' := (hb.block D h.lt).trans h

/-! ### ended, is -/
theorem ended_yes (D : Nat) (s : ByteArray) (n : Nat) (t : Tk) (w : World) (h : Dc D s n t w) (hr : Ps s n []) :
    Calls Tryd.prog 31 #[.pointer (some ⟨D, 0, none⟩)] w fun e w' => e = .returned (.bool true) ∧ ∃ m, w' = w.drewN m := by
  have c0 := h.c0
  have c1 := h.c1
  obtain rfl := hr.nil
  clear h hr
  go_enter Tryd.func31, Tryd.ntmps31
  go_wp2
  go_quiet (fail)
  go_wp2
  go_ret
  exact ⟨rfl, _, rfl⟩
theorem ended_no (D : Nat) (s : ByteArray) (n : Nat) (t : Tk) (w : World) (h : Dc D s n t w) (hr : n < s.size) :
    Calls Tryd.prog 31 #[.pointer (some ⟨D, 0, none⟩)] w fun e w' => e = .returned (.bool false) ∧ ∃ m, w' = w.drewN m := by
  have c0 := h.c0
  have c1 := h.c1
  have h1 : ¬ ((s.size : Int) ≤ n) := by omega
  have h2 : decide (s.size ≤ n) = false := by simp; omega
  have h3 : decide ((s.size : Int) ≤ n) = false := by simp; omega
  clear h hr
  go_enter Tryd.func31, Tryd.ntmps31
  go_wp2
  go_quiet (fail)
  go_wp2
  go_ret
  exact ⟨rfl, _, rfl⟩
end Go.Proofs.YtileclmmobkcaaaDoor
