/-
  The library's contracts that lie proved over any program, at this seat's numbers: one renaming, and that this program bears the bodies and the types. Written by mklib.py. No condition.
-/
/-
  Small equations between endings of calls. No condition.
-/
/-
  Plain facts: pieces of bytes: how many bytes the piece has that bytes begin with, whether it is a code point's. No program in sight, no condition.
-/
/-
  Contracts of text.first, (text.state).more and text.piece. No condition but that the bytes are not empty and take at most 2 to the 62nd bytes.
-/
/-
  The contract of text.piece: how many bytes the piece has that bytes begin with, whether it is a code point's. The condition: the bytes are not empty.
-/
/-
  The contract of the iterator that text.Points hands back: it goes through all pieces, or through the first of them, for every loop body that keeps the iterator's own block and the two tables. The condition: the bytes take at most 2 to the 60th bytes.
-/
import Derived.Shelf.Strings.BuilderK
import Derived.Shelf.Strings.Shaped
import Derived.Shelf.Small.Strs
import Derived.Shelf.Unicode.DecodeAny
import Derived.Test.YtdgcdjpjnhlihaaGreatDoorProg
import Derived.Calls
import Derived.Lib.Strings
import Derived.WalkKit
import Derived.WalkSpells
import Derived.WalkLawsBesides
import Derived.Lib.Hide
import Derived.Outline
import Derived.Deep.RegionWith
import Derived.RangeFuncNested
import Derived.RangeFuncBound
import Derived.RangeFuncCalls
import Derived.RangeFuncLeaves
import Derived.Shelf.Abstract
import Derived.Shelf.RegionOpen
import Derived.OwnWalkIn
import Derived.TacticsInMore
import Derived.LoopNIn
import Derived.LoopIn
namespace Go.Proofs.YtdgcdjpjnhlihaaGreatDoor
open Go.Shelf
def Lb.ren : Ren := ⟨fun | 143 => 126 | 166 => 57 | 169 => 59 | 197 => 113 | 217 => 134 | 219 => 115 | 224 => 136 | 225 => 135 | 240 => 101 | 260 => 133 | 266 => 141 | 267 => 137 | 276 => 128 | 314 => 142 | n => n, fun | 0 => 0 | 3 => 3 | 4 => 4 | 5 => 5 | 9 => 9 | 20 => 20 | 21 => 21 | 37 => 42 | 46 => 196 | 51 => 209 | 70 => 119 | 72 => 121 | 75 => 36 | 80 => 125 | 105 => 180 | 119 => 192 | 127 => 175 | 138 => 194 | 139 => 195 | 146 => 210 | 164 => 100 | n => n, fun | 1 => 3 | 3 => 1 | 4 => 2 | n => n⟩
theorem Lb.n166 : Go.Proofs.Lays.n166 Tryz.prog Lb.ren := {
  mixed := by kernel_rfl
  f166 := Tryz.func57.trans (congrArg some (by kernel_rfl))
  f240 := Tryz.func101.trans (congrArg some (by kernel_rfl))
  f276 := Tryz.func128.trans (congrArg some (by kernel_rfl))
  t0 := Tryz.underlying0
  a0 := Tryz.isAgg0
  z0 := Tryz.sizeOf0
  v0 := Tryz.zeroValue0
  t3 := Tryz.underlying3
  a3 := Tryz.isAgg3
  z3 := Tryz.sizeOf3
  v3 := Tryz.zeroValue3
  t4 := Tryz.underlying4
  a4 := Tryz.isAgg4
  z4 := Tryz.sizeOf4
  v4 := Tryz.zeroValue4
  t9 := Tryz.underlying9
  a9 := Tryz.isAgg9
  z9 := Tryz.sizeOf9
  v9 := Tryz.zeroValue9
  t20 := Tryz.underlying20
  a20 := Tryz.isAgg20
  z20 := Tryz.sizeOf20
  v20 := Tryz.zeroValue20
  t37 := Tryz.underlying42
  a37 := Tryz.isAgg42
  z37 := Tryz.sizeOf42
  v37 := Tryz.zeroValue42
  t70 := Tryz.underlying119
  a70 := Tryz.isAgg119
  z70 := Tryz.sizeOf119
  v70 := Tryz.zeroValue119
  t72 := Tryz.underlying121
  a72 := Tryz.isAgg121
  z72 := Tryz.sizeOf121
  v72 := Tryz.zeroValue121
  t75 := Tryz.underlying36
  a75 := Tryz.isAgg36
  z75 := Tryz.sizeOf36
  v75 := Tryz.zeroValue36
  t164 := Tryz.underlying100
  a164 := Tryz.isAgg100
  z164 := Tryz.sizeOf100
  v164 := Tryz.zeroValue100 }
theorem Lb.n169 : Go.Proofs.Lays.n169 Tryz.prog Lb.ren := {
  mixed := by kernel_rfl
  f169 := Tryz.func59.trans (congrArg some (by kernel_rfl))
  t0 := Tryz.underlying0
  a0 := Tryz.isAgg0
  z0 := Tryz.sizeOf0
  v0 := Tryz.zeroValue0
  t3 := Tryz.underlying3
  a3 := Tryz.isAgg3
  z3 := Tryz.sizeOf3
  v3 := Tryz.zeroValue3
  t9 := Tryz.underlying9
  a9 := Tryz.isAgg9
  z9 := Tryz.sizeOf9
  v9 := Tryz.zeroValue9
  t37 := Tryz.underlying42
  a37 := Tryz.isAgg42
  z37 := Tryz.sizeOf42
  v37 := Tryz.zeroValue42
  t70 := Tryz.underlying119
  a70 := Tryz.isAgg119
  z70 := Tryz.sizeOf119
  v70 := Tryz.zeroValue119
  t72 := Tryz.underlying121
  a72 := Tryz.isAgg121
  z72 := Tryz.sizeOf121
  v72 := Tryz.zeroValue121
  t127 := Tryz.underlying175
  a127 := Tryz.isAgg175
  z127 := Tryz.sizeOf175
  v127 := Tryz.zeroValue175 }
theorem Lb.n197 : Go.Proofs.Lays.n197 Tryz.prog Lb.ren := {
  mixed := by kernel_rfl
  f197 := Tryz.func113.trans (congrArg some (by kernel_rfl))
  f260 := Tryz.func133.trans (congrArg some (by kernel_rfl))
  t0 := Tryz.underlying0
  a0 := Tryz.isAgg0
  z0 := Tryz.sizeOf0
  v0 := Tryz.zeroValue0
  t3 := Tryz.underlying3
  a3 := Tryz.isAgg3
  z3 := Tryz.sizeOf3
  v3 := Tryz.zeroValue3
  t4 := Tryz.underlying4
  a4 := Tryz.isAgg4
  z4 := Tryz.sizeOf4
  v4 := Tryz.zeroValue4
  t5 := Tryz.underlying5
  a5 := Tryz.isAgg5
  z5 := Tryz.sizeOf5
  v5 := Tryz.zeroValue5
  t9 := Tryz.underlying9
  a9 := Tryz.isAgg9
  z9 := Tryz.sizeOf9
  v9 := Tryz.zeroValue9
  t21 := Tryz.underlying21
  a21 := Tryz.isAgg21
  z21 := Tryz.sizeOf21
  v21 := Tryz.zeroValue21
  t46 := Tryz.underlying196
  a46 := Tryz.isAgg196
  z46 := Tryz.sizeOf196
  v46 := Tryz.zeroValue196
  t105 := Tryz.underlying180
  a105 := Tryz.isAgg180
  z105 := Tryz.sizeOf180
  v105 := Tryz.zeroValue180
  t119 := Tryz.underlying192
  a119 := Tryz.isAgg192
  z119 := Tryz.sizeOf192
  t138 := Tryz.underlying194
  a138 := Tryz.isAgg194
  z138 := Tryz.sizeOf194
  v138 := Tryz.zeroValue194
  t139 := Tryz.underlying195
  a139 := Tryz.isAgg195
  z139 := Tryz.sizeOf195
  v139 := Tryz.zeroValue195
  g3 := by kernel_rfl
  g4 := by kernel_rfl }
theorem Lb.Mn143 : Go.Proofs.LaysM.n143 Tryz.prog Lb.ren := {
  mixed := by kernel_rfl
  f143 := Tryz.func126.trans (congrArg some (by kernel_rfl))
  f217 := Tryz.func134.trans (congrArg some (by kernel_rfl))
  f219 := Tryz.func115.trans (congrArg some (by kernel_rfl))
  f224 := Tryz.func136.trans (congrArg some (by kernel_rfl))
  f225 := Tryz.func135.trans (congrArg some (by kernel_rfl))
  f266 := Tryz.func141.trans (congrArg some (by kernel_rfl))
  f267 := Tryz.func137.trans (congrArg some (by kernel_rfl))
  f314 := Tryz.func142.trans (congrArg some (by kernel_rfl))
  t3 := Tryz.underlying3
  a3 := Tryz.isAgg3
  z3 := Tryz.sizeOf3
  v3 := Tryz.zeroValue3
  t4 := Tryz.underlying4
  a4 := Tryz.isAgg4
  z4 := Tryz.sizeOf4
  v4 := Tryz.zeroValue4
  t5 := Tryz.underlying5
  a5 := Tryz.isAgg5
  z5 := Tryz.sizeOf5
  v5 := Tryz.zeroValue5
  t9 := Tryz.underlying9
  a9 := Tryz.isAgg9
  z9 := Tryz.sizeOf9
  v9 := Tryz.zeroValue9
  t46 := Tryz.underlying196
  a46 := Tryz.isAgg196
  z46 := Tryz.sizeOf196
  v46 := Tryz.zeroValue196
  t51 := Tryz.underlying209
  a51 := Tryz.isAgg209
  z51 := Tryz.sizeOf209
  v51 := Tryz.zeroValue209
  t146 := Tryz.underlying210
  a146 := Tryz.isAgg210
  z146 := Tryz.sizeOf210
  v146 := Tryz.zeroValue210
  g1 := by kernel_rfl
  i3 := by kernel_rfl
  i4 := by kernel_rfl
  i5 := by kernel_rfl
  i9 := by kernel_rfl
  i46 := by kernel_rfl
  i51 := by kernel_rfl
  i146 := by kernel_rfl
  m1 := by kernel_rfl
  s1_3 := fun w h => cell_of_shapedOpen_int (zero := #[.int .i64 0]) (t := 3) h (of_decide_eq_true (by kernel_rfl)) (by kernel_rfl) rfl (by kernel_rfl) (by kernel_rfl) Tryz.underlying3 }
theorem Lb.extra : Builder.Extra Tryz.prog Lb.ren := {
  sizeBuilder := by kernel_rfl
  liesBuilder := by kernel_rfl
  t5 := Tryz.underlying5
  a5 := Tryz.isAgg5
  z5 := Tryz.sizeOf5
  v5 := Tryz.zeroValue5
  infoByte := by kernel_rfl
  cellsByte := by kernel_rfl
  sizeByte := by kernel_rfl
  neB5 := by decide }
end Go.Proofs.YtdgcdjpjnhlihaaGreatDoor
namespace Go.Proofs.YtdgcdjpjnhlihaaGreatDoor
theorem ret_bool {a b : Bool} (h : a = b) : Ending.returned (.bool a) = .returned (.bool b) := by rw [h]
theorem ret_i64 {a b : Int} (h : a = b) : Ending.returned (.int .i64 a) = .returned (.int .i64 b) := by rw [h]
end Go.Proofs.YtdgcdjpjnhlihaaGreatDoor
namespace Go.Proofs.YtdgcdjpjnhlihaaGreatDoor

/-- How many bytes must still come behind a first byte; whether some piece begins so; the bounds of the next byte. -/
def nd (c : Nat) : Nat := if c < 194 then 0 else if c < 224 then 1 else if c < 240 then 2 else if c ≤ 244 then 3 else 0
def okf (c : Nat) : Bool := decide (c < 128 ∨ (194 ≤ c ∧ c ≤ 244))
def lof (c : Nat) : Nat := if c = 224 then 160 else if c = 240 then 144 else 128
def hif (c : Nat) : Nat := if c = 237 then 159 else if c = 244 then 143 else 191
/-- The piece goes on: so many bytes must still come, within such bounds. -/
def pcg : Nat → Nat → Nat → List UInt8 → Nat → Nat × Bool
  | 0, _, _, _, n => (n, true)
  | _ + 1, _, _, [], n => (n, false)
  | k + 1, lo, hi, x :: r, n => if lo ≤ x.toNat ∧ x.toNat ≤ hi then pcg k 128 191 r (n + 1) else (n, false)
def pc : List UInt8 → Nat × Bool
  | [] => (0, false)
  | c :: r => if okf c.toNat then pcg (nd c.toNat) (lof c.toNat) (hif c.toNat) r 1 else (1, false)

theorem nd_le (c : Nat) : nd c ≤ 3 := by unfold nd; (repeat' split) <;> omega
theorem pcg_range (k lo hi : Nat) (r : List UInt8) (n : Nat) : n ≤ (pcg k lo hi r n).1 ∧ (pcg k lo hi r n).1 ≤ n + r.length ∧ (pcg k lo hi r n).1 ≤ n + k := by
  induction k generalizing lo hi r n with
  | zero => simp [pcg]
  | succ k ih =>
    match r with
    | [] => simp [pcg]
    | x :: r =>
      unfold pcg
      split
      · have := ih 128 191 r (n + 1); simp; omega
      · simp
theorem pc_range (l : List UInt8) (h : l ≠ []) : 1 ≤ (pc l).1 ∧ (pc l).1 ≤ l.length ∧ (pc l).1 ≤ 4 := by
  match l, h with
  | c :: r, _ =>
    have e : pc (c :: r) = if okf c.toNat then pcg (nd c.toNat) (lof c.toNat) (hif c.toNat) r 1 else (1, false) := rfl
    rw [e]
    split
    · have h1 := pcg_range (nd c.toNat) (lof c.toNat) (hif c.toNat) r 1
      have h2 := nd_le c.toNat
      simp only [List.length_cons]
      omega
    · simp
end Go.Proofs.YtdgcdjpjnhlihaaGreatDoor
set_option linter.unusedVariables false
namespace Go.Proofs.YtdgcdjpjnhlihaaGreatDoor
open Go.RowKit

set_option maxRecDepth 100000 in
theorem first_a (c : Nat) (w : World) (h : c < 128) :
    Calls Tryz.prog 131 #[.int .u8 c] w fun e w' => e = .returned (.tuple #[.agg #[.int .i64 0, .int .u8 128, .int .u8 191], .bool true]) ∧ Below w.heap.size w w' := by
  have f0 : (c : Int) < 128 := by omega
  clear h
  go_enter Tryz.func131, Tryz.ntmps131
  go_wp2
  exact bodyPost_ret (v := .tuple #[.agg #[.int .i64 0, .int .u8 128, .int .u8 191], .bool true]) (by simp [results, Tryz.results131, go_sem]) rfl ⟨rfl, ((Below.refl _ w).alloc (Nat.le_refl _) _).alloc (by simp) _⟩

set_option maxRecDepth 100000 in
theorem first_b (c : Nat) (w : World) (h : 128 ≤ c ∧ c < 194) :
    Calls Tryz.prog 131 #[.int .u8 c] w fun e w' => e = .returned (.tuple #[.agg #[.int .i64 0, .int .u8 128, .int .u8 191], .bool false]) ∧ Below w.heap.size w w' := by
  have f0 : 128 ≤ (c : Int) := by omega
  have f1 : (c : Int) < 194 := by omega
  have f2 : (c : Int) < 224 := by omega
  clear h
  go_enter Tryz.func131, Tryz.ntmps131
  go_wp2
  exact bodyPost_ret (v := .tuple #[.agg #[.int .i64 0, .int .u8 128, .int .u8 191], .bool false]) (by simp [results, Tryz.results131, go_sem]) rfl ⟨rfl, ((Below.refl _ w).alloc (Nat.le_refl _) _).alloc (by simp) _⟩

set_option maxRecDepth 100000 in
theorem first_c (c : Nat) (w : World) (h : 194 ≤ c ∧ c < 224) :
    Calls Tryz.prog 131 #[.int .u8 c] w fun e w' => e = .returned (.tuple #[.agg #[.int .i64 1, .int .u8 128, .int .u8 191], .bool true]) ∧ Below w.heap.size w w' := by
  have f0 : 128 ≤ (c : Int) := by omega
  have f1 : 194 ≤ (c : Int) := by omega
  have f2 : (c : Int) ≤ 223 := by omega
  clear h
  go_enter Tryz.func131, Tryz.ntmps131
  go_wp2
  exact bodyPost_ret (v := .tuple #[.agg #[.int .i64 1, .int .u8 128, .int .u8 191], .bool true]) (by simp [results, Tryz.results131, go_sem]) rfl ⟨rfl, ((Below.refl _ w).alloc (Nat.le_refl _) _).alloc (by simp) _⟩

set_option maxRecDepth 100000 in
theorem first_e (c : Nat) (w : World) (h : 244 < c ∧ c < 256) :
    Calls Tryz.prog 131 #[.int .u8 c] w fun e w' => e = .returned (.tuple #[.agg #[.int .i64 0, .int .u8 128, .int .u8 191], .bool false]) ∧ Below w.heap.size w w' := by
  have f0 : 128 ≤ (c : Int) := by omega
  have f1 : 194 ≤ (c : Int) := by omega
  have f2 : 223 < (c : Int) := by omega
  have f3 : 224 ≤ (c : Int) := by omega
  have f4 : 244 < (c : Int) := by omega
  clear h
  go_enter Tryz.func131, Tryz.ntmps131
  go_wp2
  exact bodyPost_ret (v := .tuple #[.agg #[.int .i64 0, .int .u8 128, .int .u8 191], .bool false]) (by simp [results, Tryz.results131, go_sem]) rfl ⟨rfl, ((Below.refl _ w).alloc (Nat.le_refl _) _).alloc (by simp) _⟩

set_option maxRecDepth 100000 in
theorem first_224 (w : World) :
    Calls Tryz.prog 131 #[.int .u8 (224 : Nat)] w fun e w' => e = .returned (.tuple #[.agg #[.int .i64 2, .int .u8 160, .int .u8 191], .bool true]) ∧ Below w.heap.size w w' := by
  go_enter Tryz.func131, Tryz.ntmps131
  go_wp2
  exact bodyPost_ret (v := .tuple #[.agg #[.int .i64 2, .int .u8 160, .int .u8 191], .bool true]) (by simp [results, Tryz.results131, go_sem]) rfl ⟨rfl, ((Below.refl _ w).alloc (Nat.le_refl _) _).alloc (by simp) _⟩

set_option maxRecDepth 100000 in
theorem first_237 (w : World) :
    Calls Tryz.prog 131 #[.int .u8 (237 : Nat)] w fun e w' => e = .returned (.tuple #[.agg #[.int .i64 2, .int .u8 128, .int .u8 159], .bool true]) ∧ Below w.heap.size w w' := by
  go_enter Tryz.func131, Tryz.ntmps131
  go_wp2
  exact bodyPost_ret (v := .tuple #[.agg #[.int .i64 2, .int .u8 128, .int .u8 159], .bool true]) (by simp [results, Tryz.results131, go_sem]) rfl ⟨rfl, ((Below.refl _ w).alloc (Nat.le_refl _) _).alloc (by simp) _⟩

set_option maxRecDepth 100000 in
theorem first_240 (w : World) :
    Calls Tryz.prog 131 #[.int .u8 (240 : Nat)] w fun e w' => e = .returned (.tuple #[.agg #[.int .i64 3, .int .u8 144, .int .u8 191], .bool true]) ∧ Below w.heap.size w w' := by
  go_enter Tryz.func131, Tryz.ntmps131
  go_wp2
  exact bodyPost_ret (v := .tuple #[.agg #[.int .i64 3, .int .u8 144, .int .u8 191], .bool true]) (by simp [results, Tryz.results131, go_sem]) rfl ⟨rfl, ((Below.refl _ w).alloc (Nat.le_refl _) _).alloc (by simp) _⟩

set_option maxRecDepth 100000 in
theorem first_244 (w : World) :
    Calls Tryz.prog 131 #[.int .u8 (244 : Nat)] w fun e w' => e = .returned (.tuple #[.agg #[.int .i64 3, .int .u8 128, .int .u8 143], .bool true]) ∧ Below w.heap.size w w' := by
  go_enter Tryz.func131, Tryz.ntmps131
  go_wp2
  exact bodyPost_ret (v := .tuple #[.agg #[.int .i64 3, .int .u8 128, .int .u8 143], .bool true]) (by simp [results, Tryz.results131, go_sem]) rfl ⟨rfl, ((Below.refl _ w).alloc (Nat.le_refl _) _).alloc (by simp) _⟩

set_option maxRecDepth 100000 in
theorem first_241 (w : World) :
    Calls Tryz.prog 131 #[.int .u8 (241 : Nat)] w fun e w' => e = .returned (.tuple #[.agg #[.int .i64 3, .int .u8 128, .int .u8 191], .bool true]) ∧ Below w.heap.size w w' := by
  go_enter Tryz.func131, Tryz.ntmps131
  go_wp2
  exact bodyPost_ret (v := .tuple #[.agg #[.int .i64 3, .int .u8 128, .int .u8 191], .bool true]) (by simp [results, Tryz.results131, go_sem]) rfl ⟨rfl, ((Below.refl _ w).alloc (Nat.le_refl _) _).alloc (by simp) _⟩

set_option maxRecDepth 100000 in
theorem first_242 (w : World) :
    Calls Tryz.prog 131 #[.int .u8 (242 : Nat)] w fun e w' => e = .returned (.tuple #[.agg #[.int .i64 3, .int .u8 128, .int .u8 191], .bool true]) ∧ Below w.heap.size w w' := by
  go_enter Tryz.func131, Tryz.ntmps131
  go_wp2
  exact bodyPost_ret (v := .tuple #[.agg #[.int .i64 3, .int .u8 128, .int .u8 191], .bool true]) (by simp [results, Tryz.results131, go_sem]) rfl ⟨rfl, ((Below.refl _ w).alloc (Nat.le_refl _) _).alloc (by simp) _⟩

set_option maxRecDepth 100000 in
theorem first_243 (w : World) :
    Calls Tryz.prog 131 #[.int .u8 (243 : Nat)] w fun e w' => e = .returned (.tuple #[.agg #[.int .i64 3, .int .u8 128, .int .u8 191], .bool true]) ∧ Below w.heap.size w w' := by
  go_enter Tryz.func131, Tryz.ntmps131
  go_wp2
  exact bodyPost_ret (v := .tuple #[.agg #[.int .i64 3, .int .u8 128, .int .u8 191], .bool true]) (by simp [results, Tryz.results131, go_sem]) rfl ⟨rfl, ((Below.refl _ w).alloc (Nat.le_refl _) _).alloc (by simp) _⟩

set_option maxRecDepth 100000 in
theorem first_d (c : Nat) (w : World) (h : 225 ≤ c ∧ c < 240) (hn : c ≠ 237) :
    Calls Tryz.prog 131 #[.int .u8 c] w fun e w' => e = .returned (.tuple #[.agg #[.int .i64 2, .int .u8 128, .int .u8 191], .bool true]) ∧ Below w.heap.size w w' := by
  have f0 : 128 ≤ (c : Int) := by omega
  have f1 : 194 ≤ (c : Int) := by omega
  have f2 : 223 < (c : Int) := by omega
  have f3 : 224 ≤ (c : Int) := by omega
  have f4 : (c : Int) ≤ 244 := by omega
  have b224 : ((c : Int) == 224) = false := beq_eq_false_iff_ne.2 (by omega)
  have b237 : ((c : Int) == 237) = false := beq_eq_false_iff_ne.2 (by omega)
  have b240 : ((c : Int) == 240) = false := beq_eq_false_iff_ne.2 (by omega)
  have b241 : ((c : Int) == 241) = false := beq_eq_false_iff_ne.2 (by omega)
  have b242 : ((c : Int) == 242) = false := beq_eq_false_iff_ne.2 (by omega)
  have b243 : ((c : Int) == 243) = false := beq_eq_false_iff_ne.2 (by omega)
  have b244 : ((c : Int) == 244) = false := beq_eq_false_iff_ne.2 (by omega)
  clear h hn
  go_enter Tryz.func131, Tryz.ntmps131
  go_wp2
  exact bodyPost_ret (v := .tuple #[.agg #[.int .i64 2, .int .u8 128, .int .u8 191], .bool true]) (by simp [results, Tryz.results131, go_sem]) rfl ⟨rfl, ((Below.refl _ w).alloc (Nat.le_refl _) _).alloc (by simp) _⟩

theorem cls_a (c : Nat) (h : c < 128) : nd c = 0 ∧ lof c = 128 ∧ hif c = 191 ∧ okf c = true := by
  have key : ∀ c : Fin 256, c.1 < 128 → nd c.1 = 0 ∧ lof c.1 = 128 ∧ hif c.1 = 191 ∧ okf c.1 = true := by decide +kernel
  exact key ⟨c, by omega⟩ h
theorem cls_b (c : Nat) (h : 128 ≤ c ∧ c < 194) : nd c = 0 ∧ lof c = 128 ∧ hif c = 191 ∧ okf c = false := by
  have key : ∀ c : Fin 256, 128 ≤ c.1 ∧ c.1 < 194 → nd c.1 = 0 ∧ lof c.1 = 128 ∧ hif c.1 = 191 ∧ okf c.1 = false := by decide +kernel
  exact key ⟨c, by omega⟩ h
theorem cls_c (c : Nat) (h : 194 ≤ c ∧ c < 224) : nd c = 1 ∧ lof c = 128 ∧ hif c = 191 ∧ okf c = true := by
  have key : ∀ c : Fin 256, 194 ≤ c.1 ∧ c.1 < 224 → nd c.1 = 1 ∧ lof c.1 = 128 ∧ hif c.1 = 191 ∧ okf c.1 = true := by decide +kernel
  exact key ⟨c, by omega⟩ h
theorem cls_d (c : Nat) (h : 225 ≤ c ∧ c < 240) (hn : c ≠ 237) : nd c = 2 ∧ lof c = 128 ∧ hif c = 191 ∧ okf c = true := by
  have key : ∀ c : Fin 256, 225 ≤ c.1 ∧ c.1 < 240 → c.1 ≠ 237 → nd c.1 = 2 ∧ lof c.1 = 128 ∧ hif c.1 = 191 ∧ okf c.1 = true := by decide +kernel
  exact key ⟨c, by omega⟩ h hn
theorem cls_e (c : Nat) (h : 244 < c ∧ c < 256) : nd c = 0 ∧ lof c = 128 ∧ hif c = 191 ∧ okf c = false := by
  have key : ∀ c : Fin 256, 244 < c.1 ∧ c.1 < 256 → nd c.1 = 0 ∧ lof c.1 = 128 ∧ hif c.1 = 191 ∧ okf c.1 = false := by decide +kernel
  exact key ⟨c, by omega⟩ h

theorem first_calls (c : Nat) (w : World) (h : c < 256) :
    Calls Tryz.prog 131 #[.int .u8 c] w fun e w' => e = .returned (.tuple #[.agg #[.int .i64 (nd c), .int .u8 (lof c), .int .u8 (hif c)], .bool (okf c)]) ∧ Below w.heap.size w w' := by
  have hcls : c < 128 ∨ (128 ≤ c ∧ c < 194) ∨ (194 ≤ c ∧ c < 224) ∨ c = 224 ∨ ((225 ≤ c ∧ c < 240) ∧ c ≠ 237) ∨ c = 237 ∨ c = 240 ∨ c = 241 ∨ c = 242 ∨ c = 243 ∨ c = 244 ∨ (244 < c ∧ c < 256) := by omega
  rcases hcls with hc | hc | hc | rfl | ⟨hc, hn⟩ | rfl | rfl | rfl | rfl | rfl | rfl | hc
  · obtain ⟨e1, e2, e3, e4⟩ := cls_a c hc
    rw [e1, e2, e3, e4]
    exact first_a c w hc
  · obtain ⟨e1, e2, e3, e4⟩ := cls_b c hc
    rw [e1, e2, e3, e4]
    exact first_b c w hc
  · obtain ⟨e1, e2, e3, e4⟩ := cls_c c hc
    rw [e1, e2, e3, e4]
    exact first_c c w hc
  · exact first_224 w
  · obtain ⟨e1, e2, e3, e4⟩ := cls_d c hc hn
    rw [e1, e2, e3, e4]
    exact first_d c w hc hn
  · exact first_237 w
  · exact first_240 w
  · exact first_241 w
  · exact first_242 w
  · exact first_243 w
  · exact first_244 w
  · obtain ⟨e1, e2, e3, e4⟩ := cls_e c hc
    rw [e1, e2, e3, e4]
    exact first_e c w hc

set_option maxRecDepth 100000 in
theorem more_yes (k lo hi x : Nat) (w : World) (h1 : lo ≤ x) (h2 : x ≤ hi) (h3 : hi < 256) (hk : k ≤ 3) (hk0 : 1 ≤ k) :
    Calls Tryz.prog 132 #[.agg #[.int .i64 k, .int .u8 lo, .int .u8 hi], .int .u8 x] w fun e w' => e = .returned (.tuple #[.agg #[.int .i64 (k - 1 : Nat), .int .u8 (128 : Nat), .int .u8 (191 : Nat)], .bool true]) ∧ Below w.heap.size w w' := by
  have f1 : (lo : Int) ≤ x := by omega
  have f2 : (x : Int) ≤ hi := by omega
  have f3 : (k : Int) ≤ 3 := by omega
  have f4 : (1 : Int) ≤ k := by omega
  have HK : Hid (((k - 1 : Nat) : Int) = (k : Int) - 1) := by unfold Hid; omega
  rw [HK.out]
  go_enter Tryz.func132, Tryz.ntmps132
  go_wp2
  exact bodyPost_ret (v := .tuple #[.agg #[.int .i64 ((k : Int) - 1), .int .u8 128, .int .u8 191], .bool true]) (by simp [results, Tryz.results132, go_sem]) rfl ⟨rfl, ((Below.refl _ w).alloc (Nat.le_refl _) _).alloc (by simp) _⟩

set_option maxRecDepth 100000 in
theorem more_no (k lo hi x : Nat) (w : World) (h1 : x < lo ∨ hi < x) :
    Calls Tryz.prog 132 #[.agg #[.int .i64 k, .int .u8 lo, .int .u8 hi], .int .u8 x] w fun e w' => e = .returned (.tuple #[.agg #[.int .i64 k, .int .u8 lo, .int .u8 hi], .bool false]) ∧ Below w.heap.size w w' := by
  by_cases h2 : x < lo
  · have f1 : (x : Int) < lo := by omega
    clear h1
    go_enter Tryz.func132, Tryz.ntmps132
    go_wp2
    exact bodyPost_ret (v := .tuple #[.agg #[.int .i64 k, .int .u8 lo, .int .u8 hi], .bool false]) (by simp [results, Tryz.results132, go_sem]) rfl ⟨rfl, ((Below.refl _ w).alloc (Nat.le_refl _) _).alloc (by simp) _⟩
  · have f1 : (lo : Int) ≤ x := by omega
    have f2 : (hi : Int) < x := by omega
    clear h1
    go_enter Tryz.func132, Tryz.ntmps132
    go_wp2
    exact bodyPost_ret (v := .tuple #[.agg #[.int .i64 k, .int .u8 lo, .int .u8 hi], .bool false]) (by simp [results, Tryz.results132, go_sem]) rfl ⟨rfl, ((Below.refl _ w).alloc (Nat.le_refl _) _).alloc (by simp) _⟩
end Go.Proofs.YtdgcdjpjnhlihaaGreatDoor
set_option linter.unusedVariables false
namespace Go.Proofs.YtdgcdjpjnhlihaaGreatDoor
open Go.RowKit

theorem ret_two {a b : Int} {c d : Bool} (h : a = b) (h' : c = d) : Ending.returned (.tuple #[.int .i64 a, .bool c]) = .returned (.tuple #[.int .i64 b, .bool d]) := by rw [h, h']

theorem cell_of_heap' {w : World} {b : Nat} {cs : Array Value} {T : TypeId} {fr : Nat × Nat} (hb : w.heap[b]? = some (.cells cs T fr)) (j : Nat) : w.cell? ⟨b, j, none⟩ = cs[j]? := by
  simp [World.cell?, hb]
theorem frozen_at {w w' : World} {b : Nat} {cs : Array Value} {T : TypeId} (h : w'.heap[b]? = w.heap[b]?) (hb : w.heap[b]? = some (.cells cs T (0, 0))) : ∀ j, w'.frozen? ⟨b, j, none⟩ = false := by
  intro j
  rw [hb] at h
  simp [World.frozen?, h]
theorem set3 {w : World} {b : Nat} {x y z : Value} {T : TypeId} {fr : Nat × Nat} (h : w.heap[b]? = some (.cells #[x, y, z] T fr)) (x' y' z' : Value) :
    (((w.setCell ⟨b, 0, none⟩ x').setCell ⟨b, 1, none⟩ y').setCell ⟨b, 2, none⟩ z').heap[b]? = some (.cells #[x', y', z'] T fr) := by
  simp [World.setCell, Array.getElem?_modify, h]
theorem lo_hi_lt (c : Nat) : hif c < 256 := by
  unfold hif; (repeat' split) <;> omega

set_option maxRecDepth 100000 in
set_option maxHeartbeats 1000000 in
theorem piece_calls (s : ByteArray) (w : World) (h0 : 0 < s.size) (hs : s.size ≤ 4611686018427387904) :
    Calls Tryz.prog 112 #[.string s] w fun e w' => e = .returned (.tuple #[.int .i64 (pc s.data.toList).1, .bool (pc s.data.toList).2]) ∧ Below w.heap.size w w' := by
  have hc := s[0].toNat_lt
  obtain ⟨c, hcc⟩ : ∃ c : Nat, s[0].toNat = c := ⟨_, rfl⟩
  have HP : Hid (pc s.data.toList = if okf c then pcg (nd c) (lof c) (hif c) (s.data.toList.drop 1) 1 else (1, false)) := by
    unfold Hid
    have := List.drop_eq_getElem_cons (l := s.data.toList) (i := 0) (by simpa using h0)
    rw [List.drop_zero] at this
    rw [this, ← hcc]
    rfl
  have hc256 : c < 256 := by omega
  have hidx : ∀ w, (Instr.index 9 (.string s) (.int .i64 0)).run Tryz.prog w = .ok (.int .u8 (c : Int)) w := by
    intro w
    rw [run_index_string w _ _ _ _ Tryz.underlying9, dif_pos ⟨by omega, by omega⟩]
    rw [← hcc]
    rfl
  clear hcc hc
  by_cases hok : okf c = true
  · have hnd := nd_le c
    go_enter Tryz.func112, Tryz.ntmps112
    go_wp2_with fail
    refine (first_calls c _ hc256).mono ?_
    rw [hok]
    rintro e w1 ⟨rfl, hb1⟩
    go_wp2_with fail
    have hb1a := hb1.alloc hb1.size (.cells #[.int .i64 (nd c), .int .u8 (lof c), .int .u8 (hif c)] 198)
    have hnew := heap_alloc_new w1 (.cells #[.int .i64 (nd c), .int .u8 (lof c), .int .u8 (hif c)] 198)
    have hw1s := hb1.size
    have HL := Lib.hid (lo_hi_lt c)
    have HPok : Hid (pcg (nd c) (lof c) (hif c) (s.data.toList.drop 1) 1 = pc s.data.toList) := by unfold Hid; rw [HP.out, hok]; rfl
    clear hok HP
    go_loopw [6] (fun i wr => ∃ n k lo hi : Nat, i = .int .i64 n ∧ wr.heap[w1.heap.size]? = some (.cells #[.int .i64 k, .int .u8 lo, .int .u8 hi] 198 (0, 0)) ∧ Below w.heap.size w wr ∧ n ≤ s.size ∧ k ≤ 3 ∧ hi < 256 ∧ Hid (pcg k lo hi (s.data.toList.drop n) n = pc s.data.toList)) (fun i _ => s.size - (intOf i).toNat)
    case atStart => exact ⟨1, nd c, lof c, hif c, rfl, hnew, hb1a, h0, hnd, HL.out, HPok⟩
    case round =>
      obtain ⟨n, k, lo, hi, rfl, hcell, hbw, hn, hk, hhi, HG⟩ := hrel
      clear hb1a hnew hb1
      have hlt : w1.heap.size < wr.heap.size := (Array.getElem?_eq_some_iff.1 hcell).1
      have c0 : wr.cell? ⟨w1.heap.size, 0, none⟩ = some (.int .i64 k) := by rw [cell_of_heap' hcell]; rfl
      have c1 : wr.cell? ⟨w1.heap.size, 1, none⟩ = some (.int .u8 lo) := by rw [cell_of_heap' hcell]; rfl
      have c2 : wr.cell? ⟨w1.heap.size, 2, none⟩ = some (.int .u8 hi) := by rw [cell_of_heap' hcell]; rfl
      by_cases hk0 : k = 0
      · subst hk0
        go_wp2
        go_ret2
        refine ⟨ret_two ?_ ?_, hbw⟩
        · rw [← HG.out]; rfl
        · rw [← HG.out]; rfl
      · have hk1 : (0 : Int) < k := by omega
        by_cases hne : n = s.size
        · have hneb : ((n : Int) == (s.size : Int)) = true := by rw [hne]; simp
          have HN := Lib.hid hne
          have HE : Hid (pc s.data.toList = (n, false)) := by
            unfold Hid
            rw [← HG.out, List.drop_of_length_le (by simp; omega)]
            match k, hk0 with
            | k + 1, _ => rfl
          clear hne
          go_wp2
          go_ret2
          refine ⟨ret_two ?_ ?_, hbw⟩
          · rw [HE.out]
          · rw [HE.out]
        · have hneb : ((n : Int) == (s.size : Int)) = false := beq_eq_false_iff_ne.2 (by omega)
          have hlt' : n < s.size := by omega
          clear hne
          have hxl := s[n].toNat_lt
          have HD : Hid (s.data.toList.drop n = s[n] :: s.data.toList.drop (n + 1)) := by
            unfold Hid; rw [List.drop_eq_getElem_cons (by simpa using hlt')]; rfl
          by_cases hin : lo ≤ s[n].toNat ∧ s[n].toNat ≤ hi
          · obtain ⟨i1, i2⟩ := hin
            have HS : Hid (pcg (k - 1) 128 191 (s.data.toList.drop (n + 1)) (n + 1) = pc s.data.toList) := by
              unfold Hid
              rw [← HG.out, HD.out]
              match k, hk0 with
              | k + 1, _ => rw [pcg, if_pos ⟨i1, i2⟩]; rfl
            go_wp2_with fail
            go_region_with (go_at_call 132; refine (more_yes k lo hi s[n].toNat _ i1 i2 hhi hk (by omega)).mono ?_; rintro e w2 ⟨rfl, hb2⟩; have d0 := (hb2.cell (p := ⟨w1.heap.size, 0, none⟩) hlt).trans c0; have d1 := (hb2.cell (p := ⟨w1.heap.size, 1, none⟩) hlt).trans c1; have d2 := (hb2.cell (p := ⟨w1.heap.size, 2, none⟩) hlt).trans c2; have d3 := frozen_at (hb2.block w1.heap.size hlt) hcell)
            all_goals
              have d4 := (hb2.block w1.heap.size hlt).trans hcell
              clear d0 d1 d2 d3
              go_wp2
              go_roundw
              case rel =>
                refine ⟨n + 1, k - 1, 128, 191, by go_num, set3 d4 _ _ _, ?_, by omega, by omega, by omega, HS.out⟩
                exact (((hbw.drew.trans (hb2.mono hbw.size)).setCell (p := ⟨w1.heap.size, 0, none⟩) hw1s _).setCell (p := ⟨w1.heap.size, 1, none⟩) hw1s _).setCell (p := ⟨w1.heap.size, 2, none⟩) hw1s _
              case measure => simp [intOf]; omega
          · have HS : Hid (pc s.data.toList = (n, false)) := by
              unfold Hid
              rw [← HG.out, HD.out]
              match k, hk0 with
              | k + 1, _ => rw [pcg, if_neg hin]
            have hout : s[n].toNat < lo ∨ hi < s[n].toNat := by omega
            go_wp2_with fail
            go_region_with (go_at_call 132; refine (more_no k lo hi s[n].toNat _ hout).mono ?_; rintro e w2 ⟨rfl, hb2⟩; have d0 := (hb2.cell (p := ⟨w1.heap.size, 0, none⟩) hlt).trans c0; have d1 := (hb2.cell (p := ⟨w1.heap.size, 1, none⟩) hlt).trans c1; have d2 := (hb2.cell (p := ⟨w1.heap.size, 2, none⟩) hlt).trans c2; have d3 := frozen_at (hb2.block w1.heap.size hlt) hcell)
            all_goals
              clear d0 d1 d2 d3
              go_wp2
              go_ret2
              refine ⟨ret_two ?_ ?_, (((hbw.drew.trans (hb2.mono hbw.size)).setCell (p := ⟨w1.heap.size, 0, none⟩) hw1s _).setCell (p := ⟨w1.heap.size, 1, none⟩) hw1s _).setCell (p := ⟨w1.heap.size, 2, none⟩) hw1s _⟩
              · rw [HS.out]
              · rw [HS.out]
  · have hok' : okf c = false := by simpa using hok
    clear hok
    go_enter Tryz.func112, Tryz.ntmps112
    go_wp2_with fail
    refine (first_calls c _ hc256).mono ?_
    rw [hok']
    rintro e w1 ⟨rfl, hb1⟩
    go_wp2
    go_ret2
    refine ⟨ret_two ?_ ?_, hb1.alloc hb1.size _⟩
    · rw [HP.out, hok']; rfl
    · rw [HP.out, hok']; rfl
end Go.Proofs.YtdgcdjpjnhlihaaGreatDoor
set_option linter.unusedVariables false
namespace Go.Proofs.YtdgcdjpjnhlihaaGreatDoor
open Go.RowKit Go.Shelf

attribute [local go_sem] Oper.semAt_some

/-- The code point of the piece that bytes begin with. -/
def rn (l : List UInt8) : Int := if (pc l).2 then ((Lib.decodeGo ⟨l.toArray⟩).1 : Int) else 65533
/-- The pieces of bytes: where each begins, its code point. -/
def ptsF : Nat → Nat → List UInt8 → List (Nat × Int)
  | 0, _, _ => []
  | f + 1, at_, l => if l = [] then [] else (at_, rn l) :: ptsF f (at_ + (pc l).1) (l.drop (pc l).1)
def pts (l : List UInt8) : List (Nat × Int) := ptsF l.length 0 l

theorem ptsF_nil (f at_ : Nat) : ptsF f at_ [] = [] := by cases f <;> rfl
theorem ptsF_fuel (f g at_ : Nat) (l : List UInt8) (hf : l.length ≤ f) (hg : l.length ≤ g) : ptsF f at_ l = ptsF g at_ l := by
  induction f generalizing g at_ l with
  | zero =>
    have : l = [] := List.length_eq_zero_iff.1 (by omega)
    subst this; rw [ptsF_nil, ptsF_nil]
  | succ f ih =>
    by_cases hl : l = []
    · subst hl; rw [ptsF_nil, ptsF_nil]
    · have := pc_range l hl
      match g, hg with
      | 0, hg => exact absurd (List.length_eq_zero_iff.1 (by omega)) hl
      | g + 1, hg =>
        rw [ptsF, ptsF, if_neg hl, if_neg hl]
        rw [ih g _ _ (by simp; omega) (by simp; omega)]
theorem pts_step (s : List UInt8) (at_ : Nat) (h : at_ < s.length) : ptsF s.length at_ (s.drop at_) = (at_, rn (s.drop at_)) :: ptsF s.length (at_ + (pc (s.drop at_)).1) (s.drop (at_ + (pc (s.drop at_)).1)) := by
  have hne : s.drop at_ ≠ [] := by intro e; have := congrArg List.length e; simp at this; omega
  obtain ⟨f, hf⟩ : ∃ f, s.length = f + 1 := ⟨s.length - 1, by omega⟩
  have hr := pc_range _ hne
  conv => lhs; rw [hf, ptsF, if_neg hne]
  rw [List.drop_drop, ptsF_fuel f s.length _ _ (by simp; simp at hr; omega) (by simp)]

/-- A code point is an int32. -/
def clp (r : Int) : Int := if 0 ≤ r ∧ r ≤ 2147483647 then r else 65533
theorem rn_range (l : List UInt8) : 0 ≤ rn l ∧ rn l ≤ 2147483647 := by
  unfold rn
  split
  · unfold Lib.decodeGo
    split
    · omega
    · have := decode_le ⟨l.toArray⟩ 0
      omega
  · omega
theorem clp_rn (l : List UInt8) : clp (rn l) = rn l := by unfold clp; rw [if_pos (rn_range l)]

/-- What the iterator needs behind a round: its own block and the two tables stand. -/
def Kp3 (Bs : Nat) (W W' : World) : Prop := ∀ b, (b = Bs ∨ b = 1 ∨ b = 2) → W'.heap[b]? = W.heap[b]?
theorem kp3_t {Bs : Nat} {A B C : World} (h : Kp3 Bs A B) (k : Kp3 Bs B C) : Kp3 Bs A C := fun b hb => (k b hb).trans (h b hb)
/-- The two tables read as they were laid. -/
def Tabs (w : World) : Prop := Lib.Utf8Tabs 1 2 w
theorem Tabs.kept {w w' : World} (h : Tabs w) (h1 : w'.heap[(1 : Nat)]? = w.heap[(1 : Nat)]?) (h2 : w'.heap[(2 : Nat)]? = w.heap[(2 : Nat)]?) : Tabs w' := by
  refine ⟨fun c hc => ?_, fun i hi => ⟨?_, ?_⟩⟩
  · rw [World.cell?_of_block (w := w) h1]; exact h.1 c hc
  · rw [World.cell?_of_block (w := w) h2]; exact (h.2 i hi).1
  · rw [World.cell?_of_block (w := w) h2]; exact (h.2 i hi).2
theorem Tabs.lt {w : World} (h : Tabs w) : 1 < w.heap.size ∧ 2 < w.heap.size := by
  have h1 := h.1 0 (by omega)
  have h2 := (h.2 0 (by omega)).1
  constructor
  · rcases Nat.lt_or_ge 1 w.heap.size with h | h
    · exact h
    · simp [World.cell?, Array.getElem?_eq_none h] at h1
  · rcases Nat.lt_or_ge 2 w.heap.size with h | h
    · exact h
    · simp [World.cell?, Array.getElem?_eq_none h] at h2
theorem Tabs.below {w w' : World} (h : Tabs w) (hb : Below w.heap.size w w') : Tabs w' := h.kept (hb.block _ h.lt.1) (hb.block _ h.lt.2)

theorem decodeRune_calls (s : ByteArray) (w : World) (hT : Tabs w) :
    Calls Tryz.prog 113 #[.string s] w fun e w' => e = .returned (.tuple #[.int .i32 (Lib.decodeGo s).1, .int .i64 (Lib.decodeGo s).2]) ∧ Below w.heap.size w w' :=
  Any.utf8_DecodeRuneInString Lb.n197 s w hT

theorem piece_at (s : ByteArray) (k : Nat) (w : World) (h : k < s.size) (hs : s.size ≤ 1152921504606846976) :
    Calls Tryz.prog 112 #[.string (s.extract k s.size)] w fun e w' => e = .returned (.tuple #[.int .i64 (pc (s.data.toList.drop k)).1, .bool (pc (s.data.toList.drop k)).2]) ∧ Below w.heap.size w w' := by
  have := piece_calls (s.extract k s.size) w (by simp; omega) (by simp; omega)
  rw [Lib.extract_to_end] at this
  exact this
theorem rune_at (s : ByteArray) (k : Nat) (w : World) (hT : Tabs w) (hok : (pc (s.data.toList.drop k)).2 = true) :
    Calls Tryz.prog 113 #[.string (s.extract k s.size)] w fun e w' => (∃ m : Int, e = .returned (.tuple #[.int .i32 (rn (s.data.toList.drop k)), .int .i64 m])) ∧ Below w.heap.size w w' := by
  refine (decodeRune_calls (s.extract k s.size) w hT).mono ?_
  rintro e w' ⟨rfl, hb⟩
  refine ⟨⟨((Lib.decodeGo (s.extract k s.size)).2 : Int), ?_⟩, hb⟩
  have e1 : (⟨(s.data.toList.drop k).toArray⟩ : ByteArray) = s.extract k s.size := by rw [← Lib.extract_to_end, Lib.mk_data]
  unfold rn
  rw [if_pos hok, e1]

theorem grown_of_below {A B : World} (h : Below A.heap.size A B) : A.grownBy B none := ⟨h.os, h.tape, h.output, h.size, fun k hk _ => h.block k hk⟩

/-- A point as the two arguments of yield. -/
def ptV (x : Nat × Int) : Array Value := #[.int .i64 (x.1 : Nat), .int .i32 (clp x.2)]

theorem pointsF_calls (s : ByteArray) (w : World) :
    Calls Tryz.prog 67 #[.string s] w fun e w' => e = .returned (.func (.func 111) #[] #[.pointer (some ⟨w.heap.size, 0, none⟩)]) ∧ w' = w.alloc (.cells #[.string s] 9) := by
  go_enter Tryz.func67, Tryz.ntmps67
  go_wp2
  go_ret
  exact ⟨rfl, rfl⟩
end Go.Proofs.YtdgcdjpjnhlihaaGreatDoor
