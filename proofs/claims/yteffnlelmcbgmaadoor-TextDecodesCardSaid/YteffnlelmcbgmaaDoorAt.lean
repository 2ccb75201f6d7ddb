/-
  The contract of text.At. The condition: the text takes at most 2 to the 24th bytes; the tables read as they were laid.
-/
import Derived.Test.YteffnlelmcbgmaaDoorTxe
import Derived.Test.YteffnlelmcbgmaaDoorFeed
import Derived.Shelf.Strings.Count
import Derived.Shelf.Strings.LastIndex
set_option linter.unusedVariables false
namespace Go.Proofs.YteffnlelmcbgmaaDoor
open Go.RowKit Go.Shelf

attribute [local go_sem] Oper.semAt_some

/-- Where the last line of a text begins. -/
def frm (x : ByteArray) : Nat := (Lib.lastIndexByte x 10 + 1).toNat
theorem frm_le (x : ByteArray) : frm x ≤ x.size ∧ Lib.lastIndexByte x 10 + 1 = (frm x : Int) := by
  unfold frm
  rcases Lib.lastIndexByte_spec x 10 with ⟨h, _⟩ | ⟨i, hi, h, _⟩ <;> rw [h] <;> omega
def colOf (x : ByteArray) : Nat := (pts (x.data.toList.drop (frm x))).length + 1
def lineOf (x : ByteArray) : Nat := 1 + Lib.countByte x.data.toList 10

set_option maxRecDepth 100000 in
set_option maxHeartbeats 2000000 in
theorem at_out (s : ByteArray) (at_ : Int) (h : at_ < 0 ∨ (s.size : Int) < at_) (w : World) :
    Calls Tryd.prog 10 #[.string s, .int .i64 at_] w fun e w' => e = .returned (.tuple #[.agg #[.int .i64 0, .int .i64 0], .int .i64 10]) ∧ Below w.heap.size w w' := by
  rcases h with h | h
  · go_enter Tryd.func10, Tryd.ntmps10
    go_wp2
    exact bodyPost_ret (v := .tuple #[.agg #[.int .i64 0, .int .i64 0], .int .i64 10]) (by simp [results, Tryd.results10, go_sem]) rfl ⟨rfl, (Below.refl _ w).alloc (Nat.le_refl _) _⟩
  · have h2 : ¬ at_ < 0 := by omega
    go_enter Tryd.func10, Tryd.ntmps10
    go_wp2
    exact bodyPost_ret (v := .tuple #[.agg #[.int .i64 0, .int .i64 0], .int .i64 10]) (by simp [results, Tryd.results10, go_sem]) rfl ⟨rfl, (Below.refl _ w).alloc (Nat.le_refl _) _⟩

theorem ptsV_nat (m : Nat) : ((m : Int) + 1 : Int) = ((m + 1 : Nat) : Int) := by omega

set_option maxRecDepth 100000 in
set_option maxHeartbeats 2000000 in
theorem at_in (s : ByteArray) (n : Nat) (hn : n ≤ s.size) (hs : s.size ≤ 16777216) (w : World) (hT : Tabs w) :
    Calls Tryd.prog 10 #[.string s, .int .i64 n] w fun e w' => e = .returned (.tuple #[.agg #[.int .i64 (lineOf (s.extract 0 n)), .int .i64 (colOf (s.extract 0 n))], .int .i64 0]) ∧ Below w.heap.size w w' := by
  have H1 : Hid (∀ (s : ByteArray) (w : World), Calls Tryd.prog 34 #[.string s, .string ⟨#[10]⟩] w fun e w' => e = .returned (.int .i64 (Lib.countByte s.data.toList 10)) ∧ w' = w) := fun s w => Any.strings_Count_one Lb.n138 s 10 w
  have H2 : Hid (∀ (s : ByteArray) (w : World), s.size < 4611686018427387904 → Calls Tryd.prog 35 #[.string s, .int .u8 10] w fun e w' => e = .returned (.int .i64 (Lib.lastIndexByte s 10)) ∧ w' = w) := fun s w h => Any.strings_LastIndexByte Lb.n149 s 10 h w
  refine (callsIn_wide (n := 5)).1 ?_
  refine callsIn_of_wp_marks Tryd.func10 rfl trivial ?_ rfl
  simp only [Tryd.ntmps10, List.size_toArray, List.length_cons, List.length_nil, Nat.reduceAdd, Nat.reduceSub, Array.replicate_succ, Array.replicate_zero, List.push_toArray, List.append_toArray, List.nil_append, List.cons_append]
  have h0 : ¬ ((n : Int) < 0) := by omega
  have h1 : ¬ ((s.size : Int) < n) := by omega
  have h1' : (n : Int) ≤ s.size := by omega
  gi_wp2_with fail
  generalize hx : s.extract 0 n = x at *
  have hxs : x.size ≤ 16777216 := by rw [← hx]; simp; omega
  have HX := Lib.hid hx
  clear hx h0 h1 h1' hn
  refine ⟨trivial, ?_⟩
  refine (callsIn_wide.2 (H1.out _ _)).mono ?_
  rintro e w' ⟨rfl, rfl⟩
  have hcl : Lib.countByte x.data.toList 10 ≤ x.size := by
    have := List.count_le_length (a := (10 : UInt8)) (l := x.data.toList)
    unfold Lib.countByte; simpa using this
  have hline : (1 : Int) + (Lib.countByte x.data.toList 10 : Nat) = (lineOf x : Nat) := by unfold lineOf; omega
  have hlr : lineOf x ≤ 16777217 := by unfold lineOf; omega
  have HL := Lib.hid hline
  gi_wp2_with fail
  refine ⟨trivial, ?_⟩
  refine (callsIn_wide.2 (H2.out _ _ (by omega))).mono ?_
  rintro e w' ⟨rfl, rfl⟩
  obtain ⟨hf1, hf2⟩ := frm_le x
  have hcol : colOf x = (pts (x.extract (frm x) x.size).data.toList).length + 1 := by
    unfold colOf
    rw [Lib.extract_data, List.take_of_length_le (l := x.data.toList.drop (frm x)) (by simp)]
  have HF2 := Lib.hid hf2
  have HC := Lib.hid hcol
  generalize hfx : frm x = fx at *
  have hf2' : Lib.lastIndexByte x 10 = (fx : Int) - 1 := by have := HF2.out; omega
  rw [hf2']
  clear hf2 hf2' HF2 hfx hcol
  gi_wp2_with (refine ⟨trivial, ?_⟩; gi_at_call 31; refine (callsIn_wide.2 (pointsF_calls _ _)).mono ?_; rintro e w' ⟨rfl, rfl⟩)
  generalize hy : x.extract fx x.size = y at *
  have hyl : y.size ≤ 16777216 := by rw [← hy]; simp; omega
  generalize hln : ((lineOf x : Nat) : Int) = line at *
  have HLN := Lib.hid hln
  have HY := Lib.hid hy
  clear hln hy H1 H2
  generalize hWL : World.alloc _ _ = WL
  have hSL : WL.heap.size = w.heap.size + 3 := by rw [← hWL]; simp
  have hPL : WL.heap[w.heap.size + 2]? = some (.cells #[.string y] 9 (0, 0)) := by
    rw [← hWL]
    have := heap_alloc_new ((w.alloc (.cells #[.int .i64 0, .int .i64 0] 24)).alloc (.cells #[.int .i64 line, .int .i64 1] 24)) (.cells #[.string y] 9)
    rw [World.size_alloc, World.size_alloc] at this
    exact this
  have hXL : WL.heap[w.heap.size + 1]? = some (.cells #[.int .i64 line, .int .i64 1] 24 (0, 0)) := by
    rw [← hWL, Below.heap_alloc _ _ _ (by simp)]
    have := heap_alloc_new (w.alloc (.cells #[.int .i64 0, .int .i64 0] 24)) (.cells #[.int .i64 line, .int .i64 1] 24)
    rw [World.size_alloc] at this
    exact this
  have hRL : WL.heap[w.heap.size]? = some (.cells #[.int .i64 0, .int .i64 0] 24 (0, 0)) := by
    rw [← hWL, Below.heap_alloc _ _ _ (by simp; omega), Below.heap_alloc _ _ _ (by simp)]
    exact heap_alloc_new w (.cells #[.int .i64 0, .int .i64 0] 24)
  have hbL : Below w.heap.size w WL := by
    rw [← hWL]
    exact (((Below.refl _ w).alloc (Nat.le_refl _) _).alloc (by simp) _).alloc (by simp; omega) _
  have hTL : Tabs WL := hT.below hbL
  have hgl := hT.lt
  clear hWL hT
  have hpl := pts_le y.data.toList
  rw [show y.data.toList.length = y.size by simp] at hpl
  refine wpIn_rangeFunc_ownF rfl (by omega) (gf := 43) (lb := #[.pointer (some ⟨w.heap.size + 2, 0, none⟩)]) rfl trivial (enters_of Tryd.func43 (by kernel_rfl) rfl)
    (points_stops _ (by omega) (w.heap.size + 2) y (by omega) _ hPL hTL) kp3_t
    (fun W l o o' hl hW _ _ b hb => World.putObj_heap_other (by
      rcases hb with rfl | rfl | rfl <;> omega)) (Below.refl _ _) (fun _ => rfl)
    (fun pre W => W.heap[w.heap.size + 2]? = some (.cells #[.string y] 9 (0, 0)) ∧ W.heap[w.heap.size + 1]? = some (.cells #[.int .i64 line, .int .i64 ((pre.length : Int) + 1)] 24 (0, 0)) ∧ W.heap[w.heap.size]? = some (.cells #[.int .i64 0, .int .i64 0] 24 (0, 0)) ∧ w.heap.size + 3 ≤ W.heap.size ∧ Below w.heap.size w W)
    (fun _ _ _ => False)
    (OwnFrom.and (Own.from (block_own _ _ _ _) _) (OwnFrom.and (Own.from (block_own' _ _ _ _) _) (OwnFrom.and (Own.from (block_own _ _ _ _) _) (OwnFrom.and (size_own _ _) (ownFrom_below (by omega) (by omega))))))
    (fun _ _ _ _ _ hs _ _ => hs)
    ⟨hPL, hXL, hRL, by omega, hbL⟩
    (fun p => { tmps := #[Value.string x, Value.int IntKind.i64 n, undef, undef,
          Value.pointer (some { block := w.heap.size, off := 0 }), Value.int IntKind.i64 0,
          Value.pointer (some { block := w.heap.size + 1, off := 0 }), Value.int IntKind.i64 n, Value.bool false,
          Value.bool false, Value.int IntKind.i64 n, Value.string s, Value.int IntKind.i64 s.size, Value.bool false,
          Value.bool false, undef, Value.string s, Value.int IntKind.i64 n, Value.string x, Value.string x,
          Value.int IntKind.i64 (Lib.countByte x.data.toList 10 : Nat), Value.int IntKind.i64 line,
          Value.agg #[Value.int IntKind.i64 line, Value.int IntKind.i64 1], Value.string x, Value.string x,
          Value.int IntKind.i64 ((fx : Int) - 1), Value.int IntKind.i64 fx, Value.string y,
          Value.func (Fn.func 43) #[] #[Value.pointer (some { block := w.heap.size + 2, off := 0 })], Value.int .i64 (p.1 : Nat), Value.int .i32 (clp p.2),
          undef, undef, undef, undef, undef], defers := [] }) ?assign ?body ?done ?stop
  case assign =>
    intro l p W K hK
    dsimp only [ptV]
    gi_wp2
    exact hK
  case body =>
    rintro l pre p W ⟨hP, hX, hR, hS, hbw⟩ hlen
    have c0 : W.cell? ⟨w.heap.size + 1, 0, none⟩ = some (.int .i64 line) := by rw [cell_of_heap' hX]; rfl
    have c1 : W.cell? ⟨w.heap.size + 1, 1, none⟩ = some (.int .i64 ((pre.length : Int) + 1)) := by rw [cell_of_heap' hX]; rfl
    have cf : ∀ j, W.frozen? ⟨w.heap.size + 1, j, none⟩ = false := frozen_at rfl hX
    have hpn : Hid ((((pre ++ [p]).length : Nat) : Int) = (pre.length : Int) + 1) := by unfold Hid; simp
    have hql : pre.length ≤ 16777216 := by omega
    have hq0 : (0 : Int) ≤ (pre.length : Int) + 1 := by omega
    have hq1 : (pre.length : Int) + 1 ≤ 16777217 := by omega
    generalize ((pre.length : Int) + 1) = q at *
    gi_wp2
    have hset : (W.setCell ⟨w.heap.size + 1, 1, none⟩ (.int .i64 (q + 1))).heap[w.heap.size + 1]? = some (.cells #[.int .i64 line, .int .i64 (q + 1)] 24 (0, 0)) := by simp [World.setCell, Array.getElem?_modify, hX]
    refine ⟨KeepsOthers.setCell _ _ _, ?_, (Below.heap_setCell _ _ _ _ (by simp)).trans hP, by rw [hset, hpn.out], (Below.heap_setCell _ _ _ _ (by simp)).trans hR, by simpa [World.setCell] using hS, hbw.setCell (p := ⟨w.heap.size + 1, 1, none⟩) (by simp) _⟩
    intro b hb
    refine Below.heap_setCell _ _ _ _ ?_
    rcases hb with rfl | rfl | rfl <;> dsimp only <;> omega
  case done =>
    rintro D ys W hD rfl ⟨hP, hX, hR, hS, hbw⟩ hK
    have hcc : Hid (((pts y.data.toList).length : Int) + 1 = colOf x) := by unfold Hid; rw [HC.out]; omega
    have c0 : W.cell? ⟨w.heap.size + 1, 0, none⟩ = some (.int .i64 line) := by rw [cell_of_heap' hX]; rfl
    have c1 : W.cell? ⟨w.heap.size + 1, 1, none⟩ = some (.int .i64 (((pts y.data.toList).length : Int) + 1)) := by rw [cell_of_heap' hX]; rfl
    have r0 : W.cell? ⟨w.heap.size, 0, none⟩ = some (.int .i64 0) := by rw [cell_of_heap' hR]; rfl
    have r1 : W.cell? ⟨w.heap.size, 1, none⟩ = some (.int .i64 0) := by rw [cell_of_heap' hR]; rfl
    have rf : ∀ j, W.frozen? ⟨w.heap.size, j, none⟩ = false := frozen_at rfl hR
    generalize (((pts y.data.toList).length : Int) + 1) = q at *
    have hD' : w.heap.size + 3 ≤ D := by omega
    gi_wp2
    generalize hW3 : World.setCell _ _ _ = W3
    have hK3 : W3.heap[D]? = some (.deferred (some [])) := by
      rw [← hW3]
      rw [Below.heap_setCell _ _ _ _ (by dsimp only; omega), Below.heap_setCell _ _ _ _ (by dsimp only; omega)]
      exact hK
    have hR3 : (W3.putObj D (.deferred none)).heap[w.heap.size]? = some (.cells #[.int .i64 line, .int .i64 q] 24 (0, 0)) := by
      rw [World.putObj_heap_other (by omega), ← hW3]
      simp [World.setCell, Array.getElem?_modify, hR]
    have g0 : (W3.putObj D (.deferred none)).cell? ⟨w.heap.size, 0, none⟩ = some (.int .i64 line) := by rw [cell_of_heap' hR3]; rfl
    have g1 : (W3.putObj D (.deferred none)).cell? ⟨w.heap.size, 1, none⟩ = some (.int .i64 q) := by rw [cell_of_heap' hR3]; rfl
    have hb3 : Below w.heap.size w W3 := by
      rw [← hW3]
      exact (hbw.setCell (p := ⟨w.heap.size, 0, none⟩) (by simp) _).setCell (p := ⟨w.heap.size, 1, none⟩) (by simp) _
    refine ⟨by simp, .inl ⟨_, _, rfl, run_takeDeferred hK3, ?_⟩⟩
    refine ⟨.tuple #[.agg #[.int .i64 line, .int .i64 q], .int .i64 0], by simp [results, Tryd.results10, go_sem, g0, g1], ?_, hb3.trans (belowK_b (w := w) (Nat.le_refl _) W3 D _ _ (by omega) hK3 rfl rfl)⟩
    rw [HX.out, HLN.out, hcc.out]
  case stop =>
    rintro D c pre W hD _ h _
    exact h.elim
end Go.Proofs.YteffnlelmcbgmaaDoor
