/-
  Contracts of text.first, (text.state).more and text.piece. No condition but that the bytes are not empty and take at most 2 to the 62nd bytes.
-/
import Derived.Test.YteffnlelmcbgmaaDoorProg
import Derived.Test.YteffnlelmcbgmaaDoorRet
import Derived.Test.YteffnlelmcbgmaaDoorTxm
import Derived.WalkKit
import Derived.WalkSpells
import Derived.WalkLawsBesides
import Derived.Lib.Hide
import Derived.Outline
import Derived.Deep.RegionWith
set_option linter.unusedVariables false
namespace Go.Proofs.YteffnlelmcbgmaaDoor
open Go.RowKit

/-- A state as a value. -/
def stV (k lo hi : Nat) : Value := .agg #[.int .i64 k, .int .u8 lo, .int .u8 hi]

set_option maxRecDepth 100000 in
theorem first_a (c : Nat) (w : World) (h : c < 128) :
    Calls Tryd.prog 51 #[.int .u8 c] w fun e w' => e = .returned (.tuple #[.agg #[.int .i64 0, .int .u8 128, .int .u8 191], .bool true]) ∧ Below w.heap.size w w' := by
  have f0 : (c : Int) < 128 := by omega
  clear h
  go_enter Tryd.func51, Tryd.ntmps51
  go_wp2
  exact bodyPost_ret (v := .tuple #[.agg #[.int .i64 0, .int .u8 128, .int .u8 191], .bool true]) (by simp [results, Tryd.results51, go_sem]) rfl ⟨rfl, ((Below.refl _ w).alloc (Nat.le_refl _) _).alloc (by simp) _⟩

set_option maxRecDepth 100000 in
theorem first_b (c : Nat) (w : World) (h : 128 ≤ c ∧ c < 194) :
    Calls Tryd.prog 51 #[.int .u8 c] w fun e w' => e = .returned (.tuple #[.agg #[.int .i64 0, .int .u8 128, .int .u8 191], .bool false]) ∧ Below w.heap.size w w' := by
  have f0 : 128 ≤ (c : Int) := by omega
  have f1 : (c : Int) < 194 := by omega
  have f2 : (c : Int) < 224 := by omega
  clear h
  go_enter Tryd.func51, Tryd.ntmps51
  go_wp2
  exact bodyPost_ret (v := .tuple #[.agg #[.int .i64 0, .int .u8 128, .int .u8 191], .bool false]) (by simp [results, Tryd.results51, go_sem]) rfl ⟨rfl, ((Below.refl _ w).alloc (Nat.le_refl _) _).alloc (by simp) _⟩

set_option maxRecDepth 100000 in
theorem first_c (c : Nat) (w : World) (h : 194 ≤ c ∧ c < 224) :
    Calls Tryd.prog 51 #[.int .u8 c] w fun e w' => e = .returned (.tuple #[.agg #[.int .i64 1, .int .u8 128, .int .u8 191], .bool true]) ∧ Below w.heap.size w w' := by
  have f0 : 128 ≤ (c : Int) := by omega
  have f1 : 194 ≤ (c : Int) := by omega
  have f2 : (c : Int) ≤ 223 := by omega
  clear h
  go_enter Tryd.func51, Tryd.ntmps51
  go_wp2
  exact bodyPost_ret (v := .tuple #[.agg #[.int .i64 1, .int .u8 128, .int .u8 191], .bool true]) (by simp [results, Tryd.results51, go_sem]) rfl ⟨rfl, ((Below.refl _ w).alloc (Nat.le_refl _) _).alloc (by simp) _⟩

set_option maxRecDepth 100000 in
theorem first_e (c : Nat) (w : World) (h : 244 < c ∧ c < 256) :
    Calls Tryd.prog 51 #[.int .u8 c] w fun e w' => e = .returned (.tuple #[.agg #[.int .i64 0, .int .u8 128, .int .u8 191], .bool false]) ∧ Below w.heap.size w w' := by
  have f0 : 128 ≤ (c : Int) := by omega
  have f1 : 194 ≤ (c : Int) := by omega
  have f2 : 223 < (c : Int) := by omega
  have f3 : 224 ≤ (c : Int) := by omega
  have f4 : 244 < (c : Int) := by omega
  clear h
  go_enter Tryd.func51, Tryd.ntmps51
  go_wp2
  exact bodyPost_ret (v := .tuple #[.agg #[.int .i64 0, .int .u8 128, .int .u8 191], .bool false]) (by simp [results, Tryd.results51, go_sem]) rfl ⟨rfl, ((Below.refl _ w).alloc (Nat.le_refl _) _).alloc (by simp) _⟩

set_option maxRecDepth 100000 in
theorem first_224 (w : World) :
    Calls Tryd.prog 51 #[.int .u8 (224 : Nat)] w fun e w' => e = .returned (.tuple #[.agg #[.int .i64 2, .int .u8 160, .int .u8 191], .bool true]) ∧ Below w.heap.size w w' := by
  go_enter Tryd.func51, Tryd.ntmps51
  go_wp2
  exact bodyPost_ret (v := .tuple #[.agg #[.int .i64 2, .int .u8 160, .int .u8 191], .bool true]) (by simp [results, Tryd.results51, go_sem]) rfl ⟨rfl, ((Below.refl _ w).alloc (Nat.le_refl _) _).alloc (by simp) _⟩

set_option maxRecDepth 100000 in
theorem first_237 (w : World) :
    Calls Tryd.prog 51 #[.int .u8 (237 : Nat)] w fun e w' => e = .returned (.tuple #[.agg #[.int .i64 2, .int .u8 128, .int .u8 159], .bool true]) ∧ Below w.heap.size w w' := by
  go_enter Tryd.func51, Tryd.ntmps51
  go_wp2
  exact bodyPost_ret (v := .tuple #[.agg #[.int .i64 2, .int .u8 128, .int .u8 159], .bool true]) (by simp [results, Tryd.results51, go_sem]) rfl ⟨rfl, ((Below.refl _ w).alloc (Nat.le_refl _) _).alloc (by simp) _⟩

set_option maxRecDepth 100000 in
theorem first_240 (w : World) :
    Calls Tryd.prog 51 #[.int .u8 (240 : Nat)] w fun e w' => e = .returned (.tuple #[.agg #[.int .i64 3, .int .u8 144, .int .u8 191], .bool true]) ∧ Below w.heap.size w w' := by
  go_enter Tryd.func51, Tryd.ntmps51
  go_wp2
  exact bodyPost_ret (v := .tuple #[.agg #[.int .i64 3, .int .u8 144, .int .u8 191], .bool true]) (by simp [results, Tryd.results51, go_sem]) rfl ⟨rfl, ((Below.refl _ w).alloc (Nat.le_refl _) _).alloc (by simp) _⟩

set_option maxRecDepth 100000 in
theorem first_244 (w : World) :
    Calls Tryd.prog 51 #[.int .u8 (244 : Nat)] w fun e w' => e = .returned (.tuple #[.agg #[.int .i64 3, .int .u8 128, .int .u8 143], .bool true]) ∧ Below w.heap.size w w' := by
  go_enter Tryd.func51, Tryd.ntmps51
  go_wp2
  exact bodyPost_ret (v := .tuple #[.agg #[.int .i64 3, .int .u8 128, .int .u8 143], .bool true]) (by simp [results, Tryd.results51, go_sem]) rfl ⟨rfl, ((Below.refl _ w).alloc (Nat.le_refl _) _).alloc (by simp) _⟩

set_option maxRecDepth 100000 in
theorem first_241 (w : World) :
    Calls Tryd.prog 51 #[.int .u8 (241 : Nat)] w fun e w' => e = .returned (.tuple #[.agg #[.int .i64 3, .int .u8 128, .int .u8 191], .bool true]) ∧ Below w.heap.size w w' := by
  go_enter Tryd.func51, Tryd.ntmps51
  go_wp2
  exact bodyPost_ret (v := .tuple #[.agg #[.int .i64 3, .int .u8 128, .int .u8 191], .bool true]) (by simp [results, Tryd.results51, go_sem]) rfl ⟨rfl, ((Below.refl _ w).alloc (Nat.le_refl _) _).alloc (by simp) _⟩

set_option maxRecDepth 100000 in
theorem first_242 (w : World) :
    Calls Tryd.prog 51 #[.int .u8 (242 : Nat)] w fun e w' => e = .returned (.tuple #[.agg #[.int .i64 3, .int .u8 128, .int .u8 191], .bool true]) ∧ Below w.heap.size w w' := by
  go_enter Tryd.func51, Tryd.ntmps51
  go_wp2
  exact bodyPost_ret (v := .tuple #[.agg #[.int .i64 3, .int .u8 128, .int .u8 191], .bool true]) (by simp [results, Tryd.results51, go_sem]) rfl ⟨rfl, ((Below.refl _ w).alloc (Nat.le_refl _) _).alloc (by simp) _⟩

set_option maxRecDepth 100000 in
theorem first_243 (w : World) :
    Calls Tryd.prog 51 #[.int .u8 (243 : Nat)] w fun e w' => e = .returned (.tuple #[.agg #[.int .i64 3, .int .u8 128, .int .u8 191], .bool true]) ∧ Below w.heap.size w w' := by
  go_enter Tryd.func51, Tryd.ntmps51
  go_wp2
  exact bodyPost_ret (v := .tuple #[.agg #[.int .i64 3, .int .u8 128, .int .u8 191], .bool true]) (by simp [results, Tryd.results51, go_sem]) rfl ⟨rfl, ((Below.refl _ w).alloc (Nat.le_refl _) _).alloc (by simp) _⟩

set_option maxRecDepth 100000 in
theorem first_d (c : Nat) (w : World) (h : 225 ≤ c ∧ c < 240) (hn : c ≠ 237) :
    Calls Tryd.prog 51 #[.int .u8 c] w fun e w' => e = .returned (.tuple #[.agg #[.int .i64 2, .int .u8 128, .int .u8 191], .bool true]) ∧ Below w.heap.size w w' := by
  have f0 : 128 ≤ (c : Int) := by omega
  have f1 : 194 ≤ (c : Int) := by omega
  have f2 : 223 < (c : Int) := by omega
  have f3 : 224 ≤ (c : Int) := by omega
  have f4 : (c : Int) ≤ 244 := by omega
  have b224 : ((c : Int) == 224) = false := beq_eq_false_iff_ne.2 (by omega)
  have b237 : ((c : Int) == 237) = false := beq_eq_false_iff_ne.2 (by omega)
  have b240 : ((c : Int) == 240) = false := beq_eq_false_iff_ne.2 (by omega)
  have b241 : ((c : Int) == 241) = false := beq_eq_false_iff_ne.2 (by omega)
  have b242 : ((c : Int) == 242) = false := beq_eq_false_iff_ne.2 (by omega)
  have b243 : ((c : Int) == 243) = false := beq_eq_false_iff_ne.2 (by omega)
  have b244 : ((c : Int) == 244) = false := beq_eq_false_iff_ne.2 (by omega)
  clear h hn
  go_enter Tryd.func51, Tryd.ntmps51
  go_wp2
  exact bodyPost_ret (v := .tuple #[.agg #[.int .i64 2, .int .u8 128, .int .u8 191], .bool true]) (by simp [results, Tryd.results51, go_sem]) rfl ⟨rfl, ((Below.refl _ w).alloc (Nat.le_refl _) _).alloc (by simp) _⟩

theorem cls_a (c : Nat) (h : c < 128) : nd c = 0 ∧ lof c = 128 ∧ hif c = 191 ∧ okf c = true := by
  have key : ∀ c : Fin 256, c.1 < 128 → nd c.1 = 0 ∧ lof c.1 = 128 ∧ hif c.1 = 191 ∧ okf c.1 = true := by decide +kernel
  exact key ⟨c, by omega⟩ h
theorem cls_b (c : Nat) (h : 128 ≤ c ∧ c < 194) : nd c = 0 ∧ lof c = 128 ∧ hif c = 191 ∧ okf c = false := by
  have key : ∀ c : Fin 256, 128 ≤ c.1 ∧ c.1 < 194 → nd c.1 = 0 ∧ lof c.1 = 128 ∧ hif c.1 = 191 ∧ okf c.1 = false := by decide +kernel
  exact key ⟨c, by omega⟩ h
theorem cls_c (c : Nat) (h : 194 ≤ c ∧ c < 224) : nd c = 1 ∧ lof c = 128 ∧ hif c = 191 ∧ okf c = true := by
  have key : ∀ c : Fin 256, 194 ≤ c.1 ∧ c.1 < 224 → nd c.1 = 1 ∧ lof c.1 = 128 ∧ hif c.1 = 191 ∧ okf c.1 = true := by decide +kernel
  exact key ⟨c, by omega⟩ h
theorem cls_d (c : Nat) (h : 225 ≤ c ∧ c < 240) (hn : c ≠ 237) : nd c = 2 ∧ lof c = 128 ∧ hif c = 191 ∧ okf c = true := by
  have key : ∀ c : Fin 256, 225 ≤ c.1 ∧ c.1 < 240 → c.1 ≠ 237 → nd c.1 = 2 ∧ lof c.1 = 128 ∧ hif c.1 = 191 ∧ okf c.1 = true := by decide +kernel
  exact key ⟨c, by omega⟩ h hn
theorem cls_e (c : Nat) (h : 244 < c ∧ c < 256) : nd c = 0 ∧ lof c = 128 ∧ hif c = 191 ∧ okf c = false := by
  have key : ∀ c : Fin 256, 244 < c.1 ∧ c.1 < 256 → nd c.1 = 0 ∧ lof c.1 = 128 ∧ hif c.1 = 191 ∧ okf c.1 = false := by decide +kernel
  exact key ⟨c, by omega⟩ h

theorem first_calls (c : Nat) (w : World) (h : c < 256) :
    Calls Tryd.prog 51 #[.int .u8 c] w fun e w' => e = .returned (.tuple #[.agg #[.int .i64 (nd c), .int .u8 (lof c), .int .u8 (hif c)], .bool (okf c)]) ∧ Below w.heap.size w w' := by
  have hcls : c < 128 ∨ (128 ≤ c ∧ c < 194) ∨ (194 ≤ c ∧ c < 224) ∨ c = 224 ∨ ((225 ≤ c ∧ c < 240) ∧ c ≠ 237) ∨ c = 237 ∨ c = 240 ∨ c = 241 ∨ c = 242 ∨ c = 243 ∨ c = 244 ∨ (244 < c ∧ c < 256) := by omega
  rcases hcls with hc | hc | hc | rfl | ⟨hc, hn⟩ | rfl | rfl | rfl | rfl | rfl | rfl | hc
  · obtain ⟨e1, e2, e3, e4⟩ := cls_a c hc
    rw [e1, e2, e3, e4]
    exact first_a c w hc
  · obtain ⟨e1, e2, e3, e4⟩ := cls_b c hc
    rw [e1, e2, e3, e4]
    exact first_b c w hc
  · obtain ⟨e1, e2, e3, e4⟩ := cls_c c hc
    rw [e1, e2, e3, e4]
    exact first_c c w hc
  · exact first_224 w
  · obtain ⟨e1, e2, e3, e4⟩ := cls_d c hc hn
    rw [e1, e2, e3, e4]
    exact first_d c w hc hn
  · exact first_237 w
  · exact first_240 w
  · exact first_241 w
  · exact first_242 w
  · exact first_243 w
  · exact first_244 w
  · obtain ⟨e1, e2, e3, e4⟩ := cls_e c hc
    rw [e1, e2, e3, e4]
    exact first_e c w hc

set_option maxRecDepth 100000 in
theorem more_yes (k lo hi x : Nat) (w : World) (h1 : lo ≤ x) (h2 : x ≤ hi) (h3 : hi < 256) (hk : k ≤ 3) (hk0 : 1 ≤ k) :
    Calls Tryd.prog 52 #[.agg #[.int .i64 k, .int .u8 lo, .int .u8 hi], .int .u8 x] w fun e w' => e = .returned (.tuple #[.agg #[.int .i64 (k - 1 : Nat), .int .u8 (128 : Nat), .int .u8 (191 : Nat)], .bool true]) ∧ Below w.heap.size w w' := by
  have f1 : (lo : Int) ≤ x := by omega
  have f2 : (x : Int) ≤ hi := by omega
  have f3 : (k : Int) ≤ 3 := by omega
  have f4 : (1 : Int) ≤ k := by omega
  have HK : Hid (((k - 1 : Nat) : Int) = (k : Int) - 1) := by unfold Hid; omega
  rw [HK.out]
  go_enter Tryd.func52, Tryd.ntmps52
  go_wp2
  exact bodyPost_ret (v := .tuple #[.agg #[.int .i64 ((k : Int) - 1), .int .u8 128, .int .u8 191], .bool true]) (by simp [results, Tryd.results52, go_sem]) rfl ⟨rfl, ((Below.refl _ w).alloc (Nat.le_refl _) _).alloc (by simp) _⟩

set_option maxRecDepth 100000 in
theorem more_no (k lo hi x : Nat) (w : World) (h1 : x < lo ∨ hi < x) :
    Calls Tryd.prog 52 #[.agg #[.int .i64 k, .int .u8 lo, .int .u8 hi], .int .u8 x] w fun e w' => e = .returned (.tuple #[.agg #[.int .i64 k, .int .u8 lo, .int .u8 hi], .bool false]) ∧ Below w.heap.size w w' := by
  by_cases h2 : x < lo
  · have f1 : (x : Int) < lo := by omega
    clear h1
    go_enter Tryd.func52, Tryd.ntmps52
    go_wp2
    exact bodyPost_ret (v := .tuple #[.agg #[.int .i64 k, .int .u8 lo, .int .u8 hi], .bool false]) (by simp [results, Tryd.results52, go_sem]) rfl ⟨rfl, ((Below.refl _ w).alloc (Nat.le_refl _) _).alloc (by simp) _⟩
  · have f1 : (lo : Int) ≤ x := by omega
    have f2 : (hi : Int) < x := by omega
    clear h1
    go_enter Tryd.func52, Tryd.ntmps52
    go_wp2
    exact bodyPost_ret (v := .tuple #[.agg #[.int .i64 k, .int .u8 lo, .int .u8 hi], .bool false]) (by simp [results, Tryd.results52, go_sem]) rfl ⟨rfl, ((Below.refl _ w).alloc (Nat.le_refl _) _).alloc (by simp) _⟩
end Go.Proofs.YteffnlelmcbgmaaDoor
