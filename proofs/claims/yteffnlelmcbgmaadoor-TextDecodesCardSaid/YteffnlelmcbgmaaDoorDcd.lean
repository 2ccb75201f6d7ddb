/-
  The walk of lacunalaw01.TextDecodes: it returns true. The condition: the tables and the library's shape stand.
-/
import Derived.Test.YteffnlelmcbgmaaDoorWrc
import Derived.Test.YteffnlelmcbgmaaDoorRdc
import Derived.Test.YteffnlelmcbgmaaDoorVal
set_option linter.unusedVariables false
namespace Go.Proofs.YteffnlelmcbgmaaDoor
open Go.RowKit Go.Shelf

attribute [local go_sem] Oper.semAt_some

theorem OwnP.blk {B : Nat} {v : Value} {l : List (Nat × Int)} {w : World} (h : OwnP B v l w) : ∃ a c, v = .slice a l.length c ∧ (l = [] ∨ ∃ g cur, a = some ⟨g, 0, none⟩ ∧ B ≤ g ∧ w.heap[g]? = some (.cells cur 47 (0, 0)) ∧ ∀ (j : Nat) (u : Value), (ptCells l)[j]? = some u → cur[j]? = some u) := by
  rcases h.2 with ⟨rfl, hn⟩ | ⟨g, cap, cur, rfl, hB, hg, _, _, _, ht⟩
  · exact ⟨none, 0, by rw [hn], .inl (List.length_eq_zero_iff.1 hn)⟩
  · refine ⟨_, _, rfl, .inr ⟨g, cur, rfl, hB, hg, fun j u hj => ?_⟩⟩
    rw [← Array.getElem?_toList]
    rw [← ht, List.getElem?_take] at hj
    split at hj
    · exact hj
    · cases hj
theorem ptCells_at (l : List (Nat × Int)) (k : Nat) (hk : k < l.length) : (ptCells l)[2 * k]? = some (.int .i64 (l[k].1 : Nat)) ∧ (ptCells l)[2 * k + 1]? = some (.int .i32 l[k].2) := by
  induction l generalizing k with
  | nil => simp at hk
  | cons x l ih =>
    match k, hk with
    | 0, _ => exact ⟨rfl, rfl⟩
    | k + 1, hk =>
      have := ih k (by simpa using hk)
      have e : ptCells (x :: l) = .int .i64 (x.1 : Nat) :: .int .i32 x.2 :: ptCells l := rfl
      rw [e, show 2 * (k + 1) = 2 * k + 1 + 1 by omega]
      exact this
/-- What a range hands to its body. -/
def ptc (x : Nat × Int) : Nat × Int := (x.1, clp x.2)
theorem pre_snoc (pre P : List (Nat × Int)) (p : Nat × Int) (h : pre.map ptc <+: P) (hk : pre.length < P.length) : ((pre ++ [p]).map ptc <+: P) ↔ P[pre.length] = ptc p := by
  obtain ⟨r, hr⟩ := h
  have hl : (pre.map ptc).length = pre.length := by simp
  have e : P[pre.length]? = r[0]? := by rw [← hr, List.getElem?_append_right (by omega), hl, Nat.sub_self]
  rw [List.getElem?_eq_getElem hk] at e
  match r, hr, e with
  | [], hr, e => simp at e
  | x :: r, hr, e =>
    have e2 : P[pre.length] = x := by simpa using e
    rw [e2, List.map_append]
    constructor
    · rintro ⟨r2, h2⟩
      rw [← hr, List.append_assoc] at h2
      have := List.append_cancel_left h2
      simp at this
      exact this.1.symm
    · intro h
      refine ⟨r, ?_⟩
      rw [← hr, List.append_assoc, h]; rfl
/-- A block that was there before stays. -/
theorem old_own {β : Type} {D B : Nat} (o : Obj) (h : D < B) : OwnFrom B (fun (_ : β) W => W.heap[D]? = some o) := fun s W W' row hs hg hr =>
  (hg.block D (Array.getElem?_eq_some_iff.1 hs).1 (fun e => by have := (hr D e.symm).1; omega)).trans hs
theorem ptc_pts (l : List UInt8) : (pts l).map ptc = pts l := by
  have key : ∀ f k l, (ptsF f k l).map ptc = ptsF f k l := by
    intro f
    induction f with
    | zero => intro k l; rfl
    | succ f ih =>
      intro k l
      unfold ptsF
      split
      · rfl
      · rw [List.map_cons, ih]
        unfold ptc
        rw [clp_rn]
  exact key _ _ _

set_option maxRecDepth 100000 in
set_option maxHeartbeats 4000000 in
theorem decodes_walk (b : ByteArray) (most_ : Int) (w : World) (g0 : -9223372036854775808 ≤ most_) (g1 : most_ ≤ 9223372036854775807) (hsh : Sh w) (hT : Tabs w) :
    Calls Tryd.prog 7 #[.string b, .int .i64 most_] w fun e w' => e = .returned (.bool true) ∧ Below w.heap.size w w' := by
  have HS := Lib.hid hsh
  have HT := Lib.hid hT
  have hgl := hT.lt
  clear hsh hT
  generalize hWa : (w.alloc (.cells #[.int .i64 most_] 3)).alloc (.cells #[.bool false] 4) = Wa
  have hM0 : Wa.heap[w.heap.size]? = some (.cells #[.int .i64 most_] 3 (0, 0)) := by
    rw [← hWa, Below.heap_alloc _ _ _ (by simp)]; exact heap_alloc_new w _
  have hR0 : Wa.heap[w.heap.size + 1]? = some (.cells #[.bool false] 4 (0, 0)) := by
    rw [← hWa]
    have := heap_alloc_new (w.alloc (.cells #[.int .i64 most_] 3)) (.cells #[.bool false] 4)
    rwa [World.size_alloc] at this
  have hba : Below w.heap.size w Wa := by rw [← hWa]; exact ((Below.refl _ w).alloc (Nat.le_refl _) _).alloc (by simp) _
  have hWs : Wa.heap.size = w.heap.size + 2 := by rw [← hWa]; simp
  have HWA := Lib.hid hWa
  clear hWa
  by_cases hb : 16384 < b.size
  · have hb' : (16384 : Int) < b.size := by omega
    go_enter Tryd.func7, Tryd.ntmps7
    go_wp2_with fail
    rw [HWA.out]
    refine (works_calls _ (HS.out.below hba) (HT.out.below hba)).mono ?_
    rintro e w1 ⟨rfl, hb1⟩
    have hR1 : w1.heap[w.heap.size + 1]? = _ := (hb1.block _ (by omega)).trans hR0
    have hb1' := hba.trans (hb1.mono hba.size)
    have r0 : w1.cell? ⟨w.heap.size + 1, 0, none⟩ = some (.bool false) := by rw [cell_of_heap' hR1]; rfl
    have rf : ∀ j, w1.frozen? ⟨w.heap.size + 1, j, none⟩ = false := frozen_at rfl hR1
    clear hb1 hR0 hM0 hba
    go_wp2
    have hR2 : (w1.setCell ⟨w.heap.size + 1, 0, none⟩ (.bool true)).heap[w.heap.size + 1]? = some (.cells #[.bool true] 4 (0, 0)) := by simp [World.setCell, Array.getElem?_modify, hR1]
    have q0 : (w1.setCell ⟨w.heap.size + 1, 0, none⟩ (.bool true)).cell? ⟨w.heap.size + 1, 0, none⟩ = some (.bool true) := by rw [cell_of_heap' hR2]; rfl
    exact bodyPost_ret (v := .bool true) (by simp [results, Tryd.results7, go_sem, q0]) rfl ⟨rfl, hb1'.setCell (p := ⟨w.heap.size + 1, 0, none⟩) (by simp) _⟩
  have hb' : ¬ ((16384 : Int) < b.size) := by omega
  have HD : Hid (∃ t : ByteArray, (∀ w, Tabs w → Calls Tryd.prog 15 #[.string b] w fun e w' => e = .returned (.string t) ∧ Below w.heap.size w w') ∧ (∀ w, Calls Tryd.prog 32 #[.string b] w fun e w' => e = .returned (.string t) ∧ Below w.heap.size w w')) :=
    ⟨_, fun w h => decodeT_calls b w (by omega) h, fun w => decodeR_calls b (by omega) w⟩
  obtain ⟨t, hd1, hd2⟩ := HD.out
  have HD1 := Lib.hid hd1
  have HD2 := Lib.hid hd2
  obtain ⟨vb, hvb⟩ : ∃ vb, Lib.validD b.data.toList = vb := ⟨_, rfl⟩
  have HV1 : Hid (∀ w, Tabs w → Calls Tryd.prog 29 #[.string b] w fun e w' => e = .returned (.bool vb) ∧ Below w.heap.size w w') := by rw [← hvb]; exact fun w h => valid_calls b (by omega) w h
  have HV2 : Hid (∀ w, Calls Tryd.prog 33 #[.string b] w fun e w' => e = .returned (.bool vb) ∧ Below w.heap.size w w') := by rw [← hvb]; exact fun w => validR_calls b (by omega) w
  clear hvb hd1 hd2 HD
  refine (callsIn_wide (n := 5)).1 ?_
  refine callsIn_of_wp_marks Tryd.func7 rfl trivial ?_ rfl
  simp only [Tryd.ntmps7, List.size_toArray, List.length_cons, List.length_nil, Nat.reduceAdd, Nat.reduceSub, Array.replicate_succ, Array.replicate_zero, List.push_toArray, List.append_toArray, List.nil_append, List.cons_append]
  gi_wp2_with fail
  rw [HWA.out]
  refine ⟨trivial, ?_⟩
  refine (callsIn_wide.2 (works_calls _ (HS.out.below hba) (HT.out.below hba))).mono ?_
  rintro e w1 ⟨rfl, hb1⟩
  have hb1' := hba.trans (hb1.mono hba.size)
  have hs1 := hb1.size
  gi_wp2_with fail
  refine ⟨trivial, ?_⟩
  refine (callsIn_wide.2 (HD1.out _ (HT.out.below hb1'))).mono ?_
  rintro e w2 ⟨rfl, hb2⟩
  have hb12 := hb1.trans (hb2.mono hs1)
  clear hb1 hb2 hb1'
  have hb2' := hba.trans (hb12.mono hba.size)
  gi_wp2_with fail
  refine ⟨trivial, ?_⟩
  refine (callsIn_wide.2 (HV1.out _ (HT.out.below hb2'))).mono ?_
  rintro e w3 ⟨rfl, hb3⟩
  have hb13 := hb12.trans (hb3.mono hb12.size)
  clear hb3 hb12 hb2'
  have hb3' := hba.trans (hb13.mono hba.size)
  gi_wp2_with fail
  refine ⟨trivial, ?_⟩
  refine (callsIn_wide.2 (pointsR_calls b (by omega) _)).mono ?_
  rintro e w4 ⟨v, rfl, hP, hb4⟩
  obtain ⟨va, vc, rfl, hrd⟩ := hP.blk
  have hb14 := hb13.trans (hb4.mono hb13.size)
  have hs3 := hb13.size
  have hM4 : w4.heap[w.heap.size]? = _ := (hb14.block _ (by omega)).trans hM0
  have hR4 : w4.heap[w.heap.size + 1]? = _ := (hb14.block _ (by omega)).trans hR0
  have hb4' := hba.trans (hb14.mono hba.size)
  have hs34 := hb4.size
  have hpl := pts_le b.data.toList
  rw [show b.data.toList.length = b.size from Array.length_toList] at hpl
  have HPM := Lib.hid (ptc_pts b.data.toList)
  have HPA := Lib.hid (ptCells_at (pts b.data.toList))
  have hG : ∃ g cur Tg fr, g < w4.heap.size ∧ g ≠ w.heap.size + 1 ∧ w4.heap[g]? = some (.cells cur Tg fr) ∧ (0 < (pts b.data.toList).length → va = some ⟨g, 0, none⟩) ∧ (∀ (j : Nat) (u : Value), (ptCells (pts b.data.toList))[j]? = some u → cur[j]? = some u) := by
    rcases hrd with h | ⟨g, cur, h1, h2, h3, h4⟩
    · refine ⟨w.heap.size, _, _, _, (Array.getElem?_eq_some_iff.1 hM4).1, by omega, hM4, fun h2 => by rw [h] at h2; simp at h2, fun j u hj => by rw [h] at hj; simp [ptCells] at hj⟩
    · exact ⟨g, cur, _, _, (Array.getElem?_eq_some_iff.1 h3).1, by omega, h3, fun _ => h1, h4⟩
  obtain ⟨g, cur, Tg, fr, hglt, hgne, hgb, hva, hcur⟩ := hG
  clear hb13 hb4 hb3' hb14 hM0 hR0 hba hP HD1 HV1 HWA hrd
  generalize hP : pts b.data.toList = P at *
  have HPE := Lib.hid hP
  clear hP
  gi_wp2_with (refine ⟨trivial, ?_⟩; gi_at_call 31; refine (callsIn_wide.2 (pointsF_calls b _)).mono ?_; rintro e w' ⟨rfl, rfl⟩)
  rename_i K hK
  have REST : ∀ (kk D : Nat) (W : World), kk ≤ P.length → (kk = P.length ∨ (kk : Int) = most_) → w4.heap.size + 3 ≤ D → W.heap[D]? = some (.deferred (some [])) →
      W.heap[w4.heap.size]? = some (.cells #[.slice va P.length vc] 41 (0, 0)) → W.heap[w4.heap.size + 1]? = some (.cells #[.int .i64 kk] 3 (0, 0)) →
      W.heap[w.heap.size]? = some (.cells #[.int .i64 most_] 3 (0, 0)) → W.heap[w.heap.size + 1]? = some (.cells #[.bool false] 4 (0, 0)) → Below w.heap.size w W →
      K { tmps := #[Value.string b, Value.int IntKind.i64 most_, undef, Value.pointer (some { block := w.heap.size, off := 0 }),
          Value.pointer (some { block := w.heap.size + 1, off := 0 }), Value.bool true, Value.string t, Value.bool vb,
          Value.pointer (some { block := w4.heap.size, off := 0 }),
          Value.pointer (some { block := w4.heap.size + 1, off := 0 }), undef, undef, undef, undef, undef,
          Value.bool true, Value.bool true, Value.bool false, Value.string b, Value.int IntKind.i64 b.size,
          Value.bool (decide ((16384 : Int) < b.size)), undef, Value.string b, Value.string t, Value.string b, Value.bool vb,
          Value.string b, Value.slice va P.length vc, Value.string b,
          Value.func (Fn.func 43) #[] #[Value.pointer (some { block := w4.heap.size + 2, off := 0 })], undef, undef, undef, undef, undef, undef, undef, undef, undef, undef, undef, undef, undef, undef, undef, undef, undef, undef, undef, undef, undef, undef, undef, undef, undef, undef, undef, undef, undef, undef, undef, undef, undef, undef, undef, undef, undef, undef, undef, undef, undef, undef, undef, undef, undef, undef, undef, undef, undef, undef, undef, undef, undef, undef, undef, undef, undef, undef, undef, undef, undef, undef, undef, undef, undef, undef, undef], defers := [{ target := .collected D, args := #[] }] } W := by
    intro kk D W h1 h2 h3 h4 h5 h6 h7 h8 h9
    apply hK
    gi_wp2_with (refine ⟨trivial, ?_⟩; gi_at_call 31; refine (callsIn_wide.2 (pointsF_calls b _)).mono ?_; rintro e w' ⟨rfl, rfl⟩)
    generalize hWL : World.alloc _ _ = WL
    have hDl : D < W.heap.size := (Array.getElem?_eq_some_iff.1 h4).1
    have hws : w.heap.size + 2 ≤ w4.heap.size := by omega
    have hkl : w4.heap.size + 1 < W.heap.size := (Array.getElem?_eq_some_iff.1 h6).1
    have hSL : WL.heap.size = W.heap.size + 2 := by rw [← hWL]; simp
    have hold : ∀ k, k < W.heap.size → WL.heap[k]? = W.heap[k]? := fun k hk => by rw [← hWL, Below.heap_alloc _ _ _ (by simp; omega), Below.heap_alloc _ _ _ hk]
    have hPL : WL.heap[W.heap.size + 1]? = some (.cells #[.string b] 9 (0, 0)) := by
      rw [← hWL]
      have := heap_alloc_new (W.alloc (.cells #[.int .i64 0] 3)) (.cells #[.string b] 9)
      rw [World.size_alloc] at this
      exact this
    have hXL : WL.heap[W.heap.size]? = some (.cells #[.int .i64 0] 3 (0, 0)) := by
      rw [← hWL, Below.heap_alloc _ _ _ (by simp)]
      exact heap_alloc_new W (.cells #[.int .i64 0] 3)
    have hbL : Below w.heap.size w WL := by
      rw [← hWL]
      exact (h9.alloc h9.size _).alloc (by simp; have := h9.size; omega) _
    have hTL : Tabs WL := HT.out.below hbL
    clear hWL
    have e4 := (hold D hDl).trans h4
    have e5 := (hold _ (by omega)).trans h5
    have e6 := (hold _ (by omega)).trans h6
    have e7 := (hold _ (by omega)).trans h7
    have e8 := (hold _ (by omega)).trans h8
    clear h4 h5 h6 h7 h8 h9 hold
    have hPlen : Hid ((pts b.data.toList).length = P.length) := by unfold Hid; rw [HPE.out]
    refine wpIn_rangeFunc_ownF rfl (by omega) (gf := 43) (lb := #[.pointer (some ⟨W.heap.size + 1, 0, none⟩)]) rfl trivial (enters_of Tryd.func43 (by kernel_rfl) rfl)
      (points_stops _ (by omega) (W.heap.size + 1) b (by omega) _ hPL hTL) kp3_t
      (fun W' l o o' hl hW' _ _ b hb => World.putObj_heap_other (by
        rcases hb with rfl | rfl | rfl <;> omega)) (Below.refl _ _) (fun _ => rfl)
      (fun pre W' => W'.heap[W.heap.size + 1]? = some (.cells #[.string b] 9 (0, 0)) ∧ W'.heap[W.heap.size]? = some (.cells #[.int .i64 (pre.length : Nat)] 3 (0, 0)) ∧
        W'.heap[D]? = some (.deferred (some [])) ∧ W'.heap[w4.heap.size]? = some (.cells #[.slice va P.length vc] 41 (0, 0)) ∧ W'.heap[w4.heap.size + 1]? = some (.cells #[.int .i64 kk] 3 (0, 0)) ∧
        W'.heap[w.heap.size]? = some (.cells #[.int .i64 most_] 3 (0, 0)) ∧ W'.heap[w.heap.size + 1]? = some (.cells #[.bool false] 4 (0, 0)) ∧ W.heap.size + 2 ≤ W'.heap.size ∧ Below w.heap.size w W')
      (fun _ _ _ => False)
      (OwnFrom.and (Own.from (block_own _ _ _ _) _) (OwnFrom.and (Own.from (block_own' _ _ _ _) _) (OwnFrom.and (old_own _ (by omega)) (OwnFrom.and (old_own _ (by omega)) (OwnFrom.and (old_own _ (by omega)) (OwnFrom.and (old_own _ (by omega)) (OwnFrom.and (old_own _ (by omega)) (OwnFrom.and (size_own _ _) (ownFrom_below (by omega) (by omega))))))))))
      (fun _ _ _ _ _ hs _ _ => hs)
      ⟨hPL, hXL, e4, e5, e6, e7, e8, by omega, hbL⟩
      (fun p => { tmps := #[Value.string b, Value.int IntKind.i64 most_, undef, Value.pointer (some { block := w.heap.size, off := 0 }),
          Value.pointer (some { block := w.heap.size + 1, off := 0 }), Value.bool true, Value.string t, Value.bool vb,
          Value.pointer (some { block := w4.heap.size, off := 0 }),
          Value.pointer (some { block := w4.heap.size + 1, off := 0 }), undef, undef, Value.pointer (some { block := W.heap.size, off := 0 }), undef, undef,
          Value.bool true, Value.bool true, Value.bool false, Value.string b, Value.int IntKind.i64 b.size,
          Value.bool (decide ((16384 : Int) < b.size)), undef, Value.string b, Value.string t, Value.string b, Value.bool vb,
          Value.string b, Value.slice va P.length vc, Value.string b,
          Value.func (Fn.func 43) #[] #[Value.pointer (some { block := w4.heap.size + 2, off := 0 })], undef, undef, undef, undef, undef, undef, undef, undef, undef, undef, undef, undef, undef, undef, undef, undef, undef, undef, undef, undef, undef, undef, undef, undef, undef, undef, undef, undef, undef, Value.string b,
          Value.func (Fn.func 43) #[] #[Value.pointer (some { block := W.heap.size + 1, off := 0 })], Value.int .i64 (p.1 : Nat), Value.int .i32 (clp p.2), undef, undef, undef, undef, undef, undef, undef, undef, undef, undef, undef, undef, undef, undef, undef, undef, undef, undef, undef, undef, undef, undef, undef, undef, undef, undef, undef, undef, undef, undef, undef, undef, undef, undef], defers := [] }) ?assign ?body ?done ?stop
    case assign =>
      intro l p W K hK
      dsimp only [ptV]
      gi_wp2
      exact hK
    case body =>
      rintro l pre p W' ⟨hP, hX, f4, f5, f6, f7, f8, hS, hbw⟩ hlen
      have c0 : W'.cell? ⟨W.heap.size, 0, none⟩ = some (.int .i64 (pre.length : Nat)) := by rw [cell_of_heap' hX]; rfl
      have cf : ∀ j, W'.frozen? ⟨W.heap.size, j, none⟩ = false := frozen_at rfl hX
      have hql : pre.length ≤ 16384 := by have := hPlen.out; omega
      have hpn : Hid (((pre ++ [p]).length : Nat) = pre.length + 1) := by unfold Hid; simp
      generalize pre.length = q at *
      gi_wp2
      have hset : (W'.setCell ⟨W.heap.size, 0, none⟩ (.int .i64 ((q : Int) + 1))).heap[W.heap.size]? = some (.cells #[.int .i64 ((q : Int) + 1)] 3 (0, 0)) := by simp [World.setCell, Array.getElem?_modify, hX]
      have hoth : ∀ k, k ≠ W.heap.size → (W'.setCell ⟨W.heap.size, 0, none⟩ (.int .i64 ((q : Int) + 1))).heap[k]? = W'.heap[k]? := fun k hk => Below.heap_setCell _ _ _ _ (by dsimp only; omega)
      refine ⟨KeepsOthers.setCell _ _ _, ?_, (hoth _ (by omega)).trans hP, by rw [hset, hpn.out]; rfl, (hoth _ (by omega)).trans f4, (hoth _ (by omega)).trans f5, (hoth _ (by omega)).trans f6, (hoth _ (by omega)).trans f7, (hoth _ (by omega)).trans f8, by simpa [World.setCell] using hS, hbw.setCell (p := ⟨W.heap.size, 0, none⟩) (by dsimp only; omega) _⟩
      intro b hb
      refine hoth _ ?_
      rcases hb with rfl | rfl | rfl <;> omega
    case done =>
      rintro D2 ys W' hD2 rfl ⟨hP, hX, f4, f5, f6, f7, f8, hS, hbw⟩ hK2
      rw [hPlen.out] at hX
      gi_wp2_with fail
      refine ⟨trivial, ?_⟩
      refine (callsIn_wide.2 (HD2.out _)).mono ?_
      rintro e W5 ⟨rfl, hb5⟩
      have hD2l : D2 < W'.heap.size := (Array.getElem?_eq_some_iff.1 hK2).1
      have hne2 : D ≠ D2 := by omega
      have hb5' := hbw.trans (hb5.mono hbw.size)
      have hs5 := hb5.size
      gi_wp2_with fail
      refine ⟨trivial, ?_⟩
      refine (callsIn_wide.2 (HV2.out _)).mono ?_
      rintro e W6 ⟨rfl, hb6⟩
      have hb56 := hb5.trans (hb6.mono hs5)
      have hb6' := hbw.trans (hb56.mono hbw.size)
      have kX := (hb56.block _ (by omega)).trans hX
      have k4 := (hb56.block D (by omega)).trans f4
      have k5 := (hb56.block _ (by omega)).trans f5
      have k6 := (hb56.block _ (by omega)).trans f6
      have k7 := (hb56.block _ (by omega)).trans f7
      have k8 := (hb56.block _ (by omega)).trans f8
      have kK2 := (hb56.block D2 hD2l).trans hK2
      have hs6 := hb56.size
      have c1 : W6.cell? ⟨W.heap.size, 0, none⟩ = some (.int .i64 (P.length : Nat)) := by rw [cell_of_heap' kX]; rfl
      have c2 : W6.cell? ⟨w4.heap.size, 0, none⟩ = some (.slice va P.length vc) := by rw [cell_of_heap' k5]; rfl
      have c3 : W6.cell? ⟨w4.heap.size + 1, 0, none⟩ = some (.int .i64 kk) := by rw [cell_of_heap' k6]; rfl
      have c4 : W6.cell? ⟨w.heap.size, 0, none⟩ = some (.int .i64 most_) := by rw [cell_of_heap' k7]; rfl
      have c5 : W6.cell? ⟨w.heap.size + 1, 0, none⟩ = some (.bool false) := by rw [cell_of_heap' k8]; rfl
      have cf : ∀ j, W6.frozen? ⟨w.heap.size + 1, j, none⟩ = false := frozen_at rfl k8
      clear hb5 hb6 hb56 hb5' hbw hX f4 f5 f6 f7 f8 hK2 hP kX k5 k6 k7
      by_cases hkk : kk = P.length
      · have hkb : ((kk : Int) == (P.length : Int)) = true := by rw [hkk]; simp
        clear hkk
        gi_wp2
        have hR8 : (W6.setCell ⟨w.heap.size + 1, 0, none⟩ (.bool true)).heap[w.heap.size + 1]? = some (.cells #[.bool true] 4 (0, 0)) := by simp [World.setCell, Array.getElem?_modify, k8]
        have hoth : ∀ k, k ≠ w.heap.size + 1 → (W6.setCell ⟨w.heap.size + 1, 0, none⟩ (.bool true)).heap[k]? = W6.heap[k]? := fun k hk => Below.heap_setCell _ _ _ _ (by dsimp only; omega)
        have hb8 : Below w.heap.size w (W6.setCell ⟨w.heap.size + 1, 0, none⟩ (.bool true)) := hb6'.setCell (p := ⟨w.heap.size + 1, 0, none⟩) (by simp) _
        have hD8 := (hoth D (by omega)).trans k4
        have hD28 := (hoth D2 (by omega)).trans kK2
        generalize W6.setCell ⟨w.heap.size + 1, 0, none⟩ (.bool true) = W8 at *
        have hb9 := hb8.trans (belowK_b (w := w) (Nat.le_refl _) W8 D2 _ (.deferred none) (by omega) hD28 rfl rfl)
        have hD9 : (W8.putObj D2 (.deferred none)).heap[D]? = some (.deferred (some [])) := (World.putObj_heap_other (by omega)).trans hD8
        have hR9 : (W8.putObj D2 (.deferred none)).heap[w.heap.size + 1]? = some (.cells #[.bool true] 4 (0, 0)) := (World.putObj_heap_other (by omega)).trans hR8
        generalize hW9 : W8.putObj D2 (.deferred none) = W9 at *
        have hR10 : (W9.putObj D (.deferred none)).heap[w.heap.size + 1]? = some (.cells #[.bool true] 4 (0, 0)) := (World.putObj_heap_other (by omega)).trans hR9
        have q0 : (W9.putObj D (.deferred none)).cell? ⟨w.heap.size + 1, 0, none⟩ = some (.bool true) := by rw [cell_of_heap' hR10]; rfl
        refine ⟨by simp, .inl ⟨_, _, rfl, run_takeDeferred hD28, ?_⟩⟩
        rw [hW9]
        refine ⟨by simp, .inl ⟨_, _, rfl, run_takeDeferred hD9, ?_⟩⟩
        exact ⟨.bool true, by simp [results, Tryd.results7, go_sem, q0], rfl, hb9.trans (belowK_b (w := w) (Nat.le_refl _) W9 D _ _ (by omega) hD9 rfl rfl)⟩
      · have hkb : ((kk : Int) == (P.length : Int)) = false := beq_eq_false_iff_ne.2 (by omega)
        have hmk : (kk : Int) = most_ := by rcases h2 with h | h; exact absurd h hkk; exact h
        have hmb : ((kk : Int) == most_) = true := by rw [hmk]; simp
        clear hkk hmk
        gi_wp2
        have hR8 : (W6.setCell ⟨w.heap.size + 1, 0, none⟩ (.bool true)).heap[w.heap.size + 1]? = some (.cells #[.bool true] 4 (0, 0)) := by simp [World.setCell, Array.getElem?_modify, k8]
        have hoth : ∀ k, k ≠ w.heap.size + 1 → (W6.setCell ⟨w.heap.size + 1, 0, none⟩ (.bool true)).heap[k]? = W6.heap[k]? := fun k hk => Below.heap_setCell _ _ _ _ (by dsimp only; omega)
        have hb8 : Below w.heap.size w (W6.setCell ⟨w.heap.size + 1, 0, none⟩ (.bool true)) := hb6'.setCell (p := ⟨w.heap.size + 1, 0, none⟩) (by simp) _
        have hD8 := (hoth D (by omega)).trans k4
        have hD28 := (hoth D2 (by omega)).trans kK2
        generalize W6.setCell ⟨w.heap.size + 1, 0, none⟩ (.bool true) = W8 at *
        have hb9 := hb8.trans (belowK_b (w := w) (Nat.le_refl _) W8 D2 _ (.deferred none) (by omega) hD28 rfl rfl)
        have hD9 : (W8.putObj D2 (.deferred none)).heap[D]? = some (.deferred (some [])) := (World.putObj_heap_other (by omega)).trans hD8
        have hR9 : (W8.putObj D2 (.deferred none)).heap[w.heap.size + 1]? = some (.cells #[.bool true] 4 (0, 0)) := (World.putObj_heap_other (by omega)).trans hR8
        generalize hW9 : W8.putObj D2 (.deferred none) = W9 at *
        have hR10 : (W9.putObj D (.deferred none)).heap[w.heap.size + 1]? = some (.cells #[.bool true] 4 (0, 0)) := (World.putObj_heap_other (by omega)).trans hR9
        have q0 : (W9.putObj D (.deferred none)).cell? ⟨w.heap.size + 1, 0, none⟩ = some (.bool true) := by rw [cell_of_heap' hR10]; rfl
        refine ⟨by simp, .inl ⟨_, _, rfl, run_takeDeferred hD28, ?_⟩⟩
        rw [hW9]
        refine ⟨by simp, .inl ⟨_, _, rfl, run_takeDeferred hD9, ?_⟩⟩
        exact ⟨.bool true, by simp [results, Tryd.results7, go_sem, q0], rfl, hb9.trans (belowK_b (w := w) (Nat.le_refl _) W9 D _ _ (by omega) hD9 rfl rfl)⟩
    case stop =>
      rintro D c pre W hD _ h _
      exact h.elim
  generalize hWL : World.alloc _ _ = WL
  have hSL : WL.heap.size = w4.heap.size + 3 := by rw [← hWL]; simp
  have hold : ∀ k, k < w4.heap.size → WL.heap[k]? = w4.heap[k]? := fun k hk => by rw [← hWL, Below.heap_alloc _ _ _ (by simp; omega), Below.heap_alloc _ _ _ (by simp; omega), Below.heap_alloc _ _ _ hk]
  have hPL : WL.heap[w4.heap.size + 2]? = some (.cells #[.string b] 9 (0, 0)) := by
    rw [← hWL]
    have := heap_alloc_new ((w4.alloc (.cells #[.slice va P.length vc] 41)).alloc (.cells #[.int .i64 0] 3)) (.cells #[.string b] 9)
    rw [World.size_alloc, World.size_alloc] at this
    exact this
  have hXL : WL.heap[w4.heap.size + 1]? = some (.cells #[.int .i64 0] 3 (0, 0)) := by
    rw [← hWL, Below.heap_alloc _ _ _ (by simp)]
    have := heap_alloc_new (w4.alloc (.cells #[.slice va P.length vc] 41)) (.cells #[.int .i64 0] 3)
    rw [World.size_alloc] at this
    exact this
  have hVL : WL.heap[w4.heap.size]? = some (.cells #[.slice va P.length vc] 41 (0, 0)) := by
    rw [← hWL, Below.heap_alloc _ _ _ (by simp; omega), Below.heap_alloc _ _ _ (by simp)]
    exact heap_alloc_new w4 _
  have hbL : Below w.heap.size w WL := by
    rw [← hWL]
    exact ((hb4'.alloc hb4'.size _).alloc (by simp; have := hb4'.size; omega) _).alloc (by simp; have := hb4'.size; omega) _
  have hTL : Tabs WL := HT.out.below hbL
  clear hWL
  have e7 := (hold _ (by omega)).trans hM4
  have e8 := (hold _ (by omega)).trans hR4
  have eg := (hold g hglt).trans hgb
  have hPlen : Hid ((pts b.data.toList).length = P.length) := by unfold Hid; rw [HPE.out]
  clear hold
  refine wpIn_rangeFunc_ownF rfl (by omega) (gf := 43) (lb := #[.pointer (some ⟨w4.heap.size + 2, 0, none⟩)]) rfl trivial (enters_of Tryd.func43 (by kernel_rfl) rfl)
    (points_stops _ (by omega) (w4.heap.size + 2) b (by omega) _ hPL hTL) kp3_t
    (fun W' l o o' hl hW' _ _ b hb => World.putObj_heap_other (by
      rcases hb with rfl | rfl | rfl <;> omega)) (Below.refl _ _) (fun _ => rfl)
    (fun pre W' => W'.heap[w4.heap.size + 2]? = some (.cells #[.string b] 9 (0, 0)) ∧ W'.heap[w4.heap.size + 1]? = some (.cells #[.int .i64 (pre.length : Nat)] 3 (0, 0)) ∧
      W'.heap[w4.heap.size]? = some (.cells #[.slice va P.length vc] 41 (0, 0)) ∧ W'.heap[g]? = some (.cells cur Tg fr) ∧
      W'.heap[w.heap.size]? = some (.cells #[.int .i64 most_] 3 (0, 0)) ∧ W'.heap[w.heap.size + 1]? = some (.cells #[.bool false] 4 (0, 0)) ∧ w4.heap.size + 3 ≤ W'.heap.size ∧ Below w.heap.size w W' ∧ pre.map ptc <+: P)
    (fun c pre W' => (c = .ret ∧ ¬ (pre.map ptc <+: P)) ∨ (c = .exit 0 ∧ ∃ kk : Nat, kk ≤ P.length ∧ (kk : Int) = most_ ∧ W'.heap[w4.heap.size + 1]? = some (.cells #[.int .i64 kk] 3 (0, 0)) ∧
      W'.heap[w4.heap.size]? = some (.cells #[.slice va P.length vc] 41 (0, 0)) ∧
      W'.heap[w.heap.size]? = some (.cells #[.int .i64 most_] 3 (0, 0)) ∧ W'.heap[w.heap.size + 1]? = some (.cells #[.bool false] 4 (0, 0)) ∧ Below w.heap.size w W'))
    (OwnFrom.and (old_own _ (by omega)) (OwnFrom.and (Own.from (block_own' _ _ _ _) _) (OwnFrom.and (old_own _ (by omega)) (OwnFrom.and (old_own _ (by omega)) (OwnFrom.and (old_own _ (by omega)) (OwnFrom.and (old_own _ (by omega)) (OwnFrom.and (size_own _ _) (OwnFrom.and (ownFrom_below (by omega) (by omega)) (fun _ _ _ _ hs _ _ => hs)))))))))
    (fun c s W1 W2 row hs hg hr => by
      rcases hs with h | ⟨h1, kk, h2, h3, h4, h5, h6, h7, h8⟩
      · exact .inl h
      · refine .inr ⟨h1, kk, h2, h3, ?_, ?_, ?_, ?_, ?_⟩
        · exact (old_own (β := Unit) _ (by omega)) () _ _ row h4 hg hr
        · exact (old_own (β := Unit) _ (by omega)) () _ _ row h5 hg hr
        · exact (old_own (β := Unit) _ (by omega)) () _ _ row h6 hg hr
        · exact (old_own (β := Unit) _ (by omega)) () _ _ row h7 hg hr
        · exact (ownFrom_below (β := Unit) (by omega) (by omega)) () _ _ row h8 hg hr)
    ⟨hPL, hXL, hVL, eg, e7, e8, by omega, hbL, List.nil_prefix⟩
    (fun p => { tmps := #[Value.string b, Value.int IntKind.i64 most_, undef, Value.pointer (some { block := w.heap.size, off := 0 }),
          Value.pointer (some { block := w.heap.size + 1, off := 0 }), Value.bool true, Value.string t, Value.bool vb,
          Value.pointer (some { block := w4.heap.size, off := 0 }),
          Value.pointer (some { block := w4.heap.size + 1, off := 0 }), Value.int .i64 (p.1 : Nat), Value.int .i32 (clp p.2), undef, undef, undef,
          Value.bool true, Value.bool true, Value.bool false, Value.string b, Value.int IntKind.i64 b.size,
          Value.bool (decide ((16384 : Int) < b.size)), undef, Value.string b, Value.string t, Value.string b, Value.bool vb,
          Value.string b, Value.slice va P.length vc, Value.string b,
          Value.func (Fn.func 43) #[] #[Value.pointer (some { block := w4.heap.size + 2, off := 0 })], Value.int .i64 (p.1 : Nat), Value.int .i32 (clp p.2), undef, undef, undef, undef, undef, undef, undef, undef, undef, undef, undef, undef, undef, undef, undef, undef, undef, undef, undef, undef, undef, undef, undef, undef, undef, undef, undef, undef, undef, undef, undef, undef, undef, undef, undef, undef, undef, undef, undef, undef, undef, undef, undef, undef, undef, undef, undef, undef, undef, undef, undef, undef, undef, undef, undef, undef, undef, undef, undef, undef, undef, undef, undef, undef, undef], defers := [] }) ?assign ?body ?done ?stop
  case assign =>
    intro l p W K hK
    dsimp only [ptV]
    gi_wp2
    exact hK
  case body =>
    rintro l pre p W' ⟨hP, hX, hV, hg, f7, f8, hS, hbw, hpre⟩ hlen
    have hq : pre.length < P.length := by have := hPlen.out; omega
    have HSN := Lib.hid (pre_snoc pre P p hpre hq)
    obtain ⟨p1, p2⟩ := HPA.out pre.length hq
    have hc1 := hcur _ _ p1
    have hc2 := hcur _ _ p2
    obtain rfl := hva (by omega)
    have hPQ : Hid (P[pre.length] = (P[pre.length].1, P[pre.length].2)) := rfl
    generalize P[pre.length].1 = a at *
    generalize P[pre.length].2 = rr at *
    have d1 : W'.cell? ⟨g, pre.length * 2, none⟩ = some (.int .i64 a) := by rw [cell_of_heap' hg, Nat.mul_comm]; exact hc1
    have d2 : W'.cell? ⟨g, pre.length * 2 + 1, none⟩ = some (.int .i32 rr) := by rw [cell_of_heap' hg, Nat.mul_comm]; exact hc2
    have c2 : W'.cell? ⟨w4.heap.size, 0, none⟩ = some (.slice (some ⟨g, 0, none⟩) P.length vc) := by rw [cell_of_heap' hV]; rfl
    have c3 : W'.cell? ⟨w4.heap.size + 1, 0, none⟩ = some (.int .i64 (pre.length : Nat)) := by rw [cell_of_heap' hX]; rfl
    have c4 : W'.cell? ⟨w.heap.size, 0, none⟩ = some (.int .i64 most_) := by rw [cell_of_heap' f7]; rfl
    have c5 : W'.cell? ⟨w.heap.size + 1, 0, none⟩ = some (.bool false) := by rw [cell_of_heap' f8]; rfl
    have cf : ∀ j, W'.frozen? ⟨w.heap.size + 1, j, none⟩ = false := frozen_at rfl f8
    have cf2 : ∀ j, W'.frozen? ⟨w4.heap.size + 1, j, none⟩ = false := frozen_at rfl hX
    clear p1 p2 hc1 hc2 hcur
    generalize hql : pre.length = q at *
    have HQL := Lib.hid hql
    clear hql
    by_cases ha : a = p.1
    · subst ha
      by_cases hr : rr = clp p.2
      · subst hr
        have HGOOD : Hid ((pre ++ [p]).map ptc <+: P) := by
          apply HSN.out.2
          rw [hPQ.out]; rfl
        by_cases hm : (q : Int) = most_
        · have hmb : ((q : Int) == most_) = true := by rw [hm]; simp
          have HM := Lib.hid hm
          clear hm
          gi_wp2
          exact ⟨KeepsOthers.refl _, .inr ⟨rfl, q, by omega, HM.out, hX, hV, f7, f8, hbw⟩⟩
        · have hmb : ((q : Int) == most_) = false := beq_eq_false_iff_ne.2 hm
          clear hm
          have hql : q ≤ 16384 := by omega
          gi_wp2
          have hset : (W'.setCell ⟨w4.heap.size + 1, 0, none⟩ (.int .i64 ((q : Int) + 1))).heap[w4.heap.size + 1]? = some (.cells #[.int .i64 ((q : Int) + 1)] 3 (0, 0)) := by simp [World.setCell, Array.getElem?_modify, hX]
          have hoth : ∀ k, k ≠ w4.heap.size + 1 → (W'.setCell ⟨w4.heap.size + 1, 0, none⟩ (.int .i64 ((q : Int) + 1))).heap[k]? = W'.heap[k]? := fun k hk => Below.heap_setCell _ _ _ _ (by dsimp only; omega)
          refine ⟨KeepsOthers.setCell _ _ _, ?_, (hoth _ (by omega)).trans hP, ?_, (hoth _ (by omega)).trans hV, (hoth _ (by omega)).trans hg, (hoth _ (by omega)).trans f7, (hoth _ (by omega)).trans f8, by simpa [World.setCell] using hS, hbw.setCell (p := ⟨w4.heap.size + 1, 0, none⟩) (by dsimp only; omega) _, HGOOD.out⟩
          · intro b hb
            refine hoth _ ?_
            rcases hb with rfl | rfl | rfl <;> omega
          · rw [hset, List.length_append, HQL.out]; rfl
      · have hrb : (rr == clp p.2) = false := beq_eq_false_iff_ne.2 hr
        have HBAD : Hid (¬ ((pre ++ [p]).map ptc <+: P)) := by
          intro h
          have h2 := HSN.out.1 h
          rw [hPQ.out] at h2
          unfold ptc at h2
          injection h2 with h3 h4
          exact hr h4
        have hoth : ∀ v k, k ≠ w.heap.size + 1 → (W'.setCell ⟨w.heap.size + 1, 0, none⟩ v).heap[k]? = W'.heap[k]? := fun v k hk => Below.heap_setCell _ _ _ _ (by dsimp only; omega)
        gi_wp2
        all_goals first | exact ⟨KeepsOthers.setCell _ _ _, .inl ⟨rfl, HBAD.out⟩⟩ | (exfalso; omega) | simp_all
    · have hab : ((a : Int) == ((p.1 : Nat) : Int)) = false := beq_eq_false_iff_ne.2 (by omega)
      have HBAD : Hid (¬ ((pre ++ [p]).map ptc <+: P)) := by
        intro h
        have h2 := HSN.out.1 h
        rw [hPQ.out] at h2
        unfold ptc at h2
        injection h2 with h3 h4
        exact ha h3
      have hoth : ∀ v k, k ≠ w.heap.size + 1 → (W'.setCell ⟨w.heap.size + 1, 0, none⟩ v).heap[k]? = W'.heap[k]? := fun v k hk => Below.heap_setCell _ _ _ _ (by dsimp only; omega)
      gi_wp2
      exact ⟨KeepsOthers.setCell _ _ _, .inl ⟨rfl, HBAD.out⟩⟩
  case done =>
    rintro D ys W' hD rfl ⟨hP, hX, hV, hg, f7, f8, hS, hbw, hpre⟩ hK1
    refine REST P.length D W' (Nat.le_refl _) (.inl rfl) (by omega) hK1 hV (by rw [hX, hPlen.out]) f7 f8 hbw
  case stop =>
    rintro D c pre W' hD hpr h hK1
    rcases h with ⟨_, h⟩ | ⟨rfl, kk, h2, h3, h4, h5, h6, h7, h8⟩
    · exfalso
      obtain ⟨r, hr⟩ := hpr
      apply h
      refine ⟨r.map ptc, ?_⟩
      rw [← List.map_append, hr, ← HPE.out, ptc_pts]
    · gi_wp2_with fail
      exact REST kk D W' h2 (.inr h3) (by omega) hK1 h5 h4 h6 h7 h8
end Go.Proofs.YteffnlelmcbgmaaDoor
