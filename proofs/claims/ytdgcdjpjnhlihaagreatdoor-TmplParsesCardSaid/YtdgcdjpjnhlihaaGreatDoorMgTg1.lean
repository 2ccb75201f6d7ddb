/-
  The contract of lacunaref00.WeighTemplate. The condition: lists and texts of at most 2 to the 47th bytes.
-/
/-
  Plain laws: what a template weighs bounds its sizes; places turn neither what may be nor what is written. No condition.
-/
import Derived.Test.YtdgcdjpjnhlihaaGreatDoorTg0M
import Derived.Test.YtdgcdjpjnhlihaaGreatDoorTs2M
import Derived.Test.YtdgcdjpjnhlihaaGreatDoorMgTs0
set_option linter.unusedSimpArgs false
set_option linter.unusedVariables false
namespace Go.Proofs.YtdgcdjpjnhlihaaGreatDoor
open Go.RowKit Go.Shelf
attribute [local go_sem ↓] Go.wp_at_zero Go.wp_at_succ

def wtD (l : List Df) : Nat := (l.map fun d => d.name.size + wt d.kids).sum
def wtT (t : Tm) : Nat := wt t.main + t.defs.length + wtD t.defs
theorem wtD_cons (d : Df) (l : List Df) : wtD (d :: l) = d.name.size + wt d.kids + wtD l := by simp [wtD]
end Go.Proofs.YtdgcdjpjnhlihaaGreatDoor
set_option linter.unusedSimpArgs false
set_option linter.unusedVariables false
namespace Go.Proofs.YtdgcdjpjnhlihaaGreatDoor
open Go.RowKit Go.Shelf

theorem cnt_wt (t : Pt) : t.cnt ≤ t.len + wq t := by
  induction t with
  | nil => exact Nat.le_refl _
  | cons h k e r ihk ihe ihr => simp only [Pt.cnt, Pt.len, wq]; omega
theorem size_nsz {l : List ByteArray} {n : ByteArray} (h : n ∈ l) : n.size ≤ nsz l := by
  induction l with
  | nil => cases h
  | cons x l ih =>
    simp only [nsz, List.map_cons, List.sum_cons] at ih ⊢
    rcases List.mem_cons.1 h with rfl | h
    · omega
    · have := ih h; omega
theorem dots_wt (l : List ByteArray) : (dots (bls l)).length = l.length + nsz l := by
  induction l with
  | nil => rfl
  | cons x l ih =>
    have : bls (x :: l) = bl x :: bls l := rfl
    rw [this]
    simp only [dots, List.length_append, List.length_cons, nsz, List.map_cons, List.sum_cons] at ih ⊢
    have : (bl x).length = x.size := rfl
    omega
theorem way_wt (root : Bool) (l : List ByteArray) : (wayS root (bls l)).length ≤ 1 + l.length + nsz l := by
  have := dots_wt l
  unfold wayS
  split
  · simp; omega
  · rw [List.length_append, this]; split <;> simp <;> omega
theorem src_wt (t : Pt) : ∀ after, (t.src after).length ≤ 40 * (t.len + wq t) := by
  induction t with
  | nil => intro after; exact Nat.le_refl _
  | cons h k e r ihk ihe ihr =>
    intro after
    have h1 := ihr (decide (h.kind = 1))
    have h2 := ihk false
    have h3 := ihe false
    have h4 := way_wt h.root h.names
    have h5 : hw h = h.text.size + h.name.size + h.names.length + nsz h.names := rfl
    have h6 : (bl h.text).length = h.text.size := rfl
    have h7 : (bl h.name).length = h.name.size := rfl
    simp only [Pt.src, Pt.len, wq, List.length_append]
    have hp : (if h.kind = 1 then (if after then noteS else []) ++ bl h.text
     else if h.kind = 2 then bra ++ wayS h.root (bls h.names) ++ ket
     else if h.kind = 5 then bra ++ (kCall ++ 32 :: bl h.name ++ 32 :: wayS h.root (bls h.names)) ++ ket
     else if h.kind = 3 ∨ h.kind = 4 then
       bra ++ ((if h.kind = 4 then kRange else kIf) ++ 32 :: wayS h.root (bls h.names)) ++ ket ++ Pt.src false k ++ (if e.isNil then [] else elseS ++ Pt.src false e) ++ endS
     else []).length ≤ 40 * (1 + hw h) + 40 * (k.len + wq k) + 40 * (e.len + wq e) := by
      split
      · rw [List.length_append]; split <;> simp [noteS] <;> omega
      split
      · simp [bra, ket]; omega
      split
      · simp [bra, ket, kCall]; omega
      split
      · rw [List.length_append, List.length_append, List.length_append]
        have a1 : (bra ++ ((if h.kind = 4 then kRange else kIf) ++ 32 :: wayS h.root (bls h.names)) ++ ket).length ≤ 10 + (wayS h.root (bls h.names)).length := by
          split <;> simp [bra, ket, kRange, kIf] <;> omega
        have a2 : (if e.isNil then [] else elseS ++ Pt.src false e).length ≤ 8 + (Pt.src false e).length := by
          split
          · simp
          · rw [List.length_append]; have : elseS.length = 8 := rfl; omega
        have a3 : endS.length = 7 := rfl
        omega
      · simp
    omega
theorem srcD_wt (l : List Df) : (l.flatMap defS).length ≤ 40 * (l.length + wtD l) := by
  induction l with
  | nil => exact Nat.le_refl _
  | cons d l ih =>
    rw [List.flatMap_cons, List.length_append, wtD_cons, List.length_cons]
    have h1 := src_wt d.kids false
    have h2 : (defS d).length = d.name.size + 18 + (d.kids.src false).length := by simp [defS, bra, ket, kDef, endS, bl]; omega
    unfold wt
    omega
theorem wtD_mem {l : List Df} {d : Df} (h : d ∈ l) : d.name.size + wt d.kids ≤ wtD l := by
  induction l with
  | nil => cases h
  | cons x l ih =>
    rw [wtD_cons]
    rcases List.mem_cons.1 h with rfl | h
    · omega
    · have := ih h; omega
theorem cntD_wt (l : List Df) : (l.map fun d => d.kids.cnt).sum ≤ wtD l := by
  induction l with
  | nil => exact Nat.le_refl _
  | cons d l ih =>
    rw [wtD_cons, List.map_cons, List.sum_cons]
    have := cnt_wt d.kids
    unfold wt
    omega
/-! ### Places -/
end Go.Proofs.YtdgcdjpjnhlihaaGreatDoor
