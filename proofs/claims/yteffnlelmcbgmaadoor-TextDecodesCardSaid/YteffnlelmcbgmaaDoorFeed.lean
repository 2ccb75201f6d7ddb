/-
  Contracts of (*text.Decoder).Feed and Close. The condition: the bytes take at most 2 to the 28th bytes; the tables read as they were laid.
-/
import Derived.Test.YteffnlelmcbgmaaDoorTxn
import Derived.Test.YteffnlelmcbgmaaDoorWts
import Derived.RegionTactic
import Derived.RegionIn
import Derived.BigRegionIn
set_option linter.unusedVariables false
namespace Go.Proofs.YteffnlelmcbgmaaDoor
open Go.RowKit Go.Shelf

attribute [local go_sem] Oper.semAt_some

/-- What a decoder makes of code points: lines end with a byte 10. -/
def crStep (x : List UInt8 × Bool) (r : Int) : List UInt8 × Bool :=
  (if r = 13 then x.1 ++ [10] else if r = 10 ∧ x.2 = true then x.1 else x.1 ++ Lib.encodeRune r, decide (r = 13))
def crF (cr : Bool) (l : List (Nat × Int)) : List UInt8 × Bool := l.foldl (fun x p => crStep x (clp p.2)) ([], cr)
theorem crF_snoc (cr : Bool) (l : List (Nat × Int)) (x : Nat × Int) : crF cr (l ++ [x]) = crStep (crF cr l) (clp x.2) := by simp [crF]

theorem crStep_le (x : List UInt8 × Bool) (r : Int) : (crStep x r).1.length ≤ x.1.length + 4 := by
  unfold crStep
  have := enc_rune_le r
  dsimp only
  split
  · simp
  · split <;> simp
    omega
theorem crF_le (cr : Bool) (l : List (Nat × Int)) : (crF cr l).1.length ≤ 4 * l.length := by
  have key : ∀ (l : List (Nat × Int)) (x : List UInt8 × Bool), (l.foldl (fun x p => crStep x (clp p.2)) x).1.length ≤ x.1.length + 4 * l.length := by
    intro l
    induction l with
    | nil => intro x; simp
    | cons p l ih =>
      intro x
      have h1 := ih (crStep x (clp p.2))
      have h2 := crStep_le x (clp p.2)
      simp only [List.foldl_cons, List.length_cons]
      omega
  have := key l ([], cr)
  simpa [crF] using this
theorem block_own' {β : Type} (b : Nat) (cs : β → Array Value) (T : TypeId) (fr : Nat × Nat) : Own (fun (s : β) W => W.heap[b]? = some (.cells (cs s) T fr)) := by
  intro s W W' row h hg hr
  refine (hg.block b (Array.getElem?_eq_some_iff.1 h).1 ?_).trans h
  intro e
  obtain ⟨o, ho, hc⟩ := hr b e.symm
  rw [h] at ho
  cases ho
  simp [Obj.isCells] at hc
theorem size_own {β : Type} (B n : Nat) : OwnFrom B (fun (_ : β) W => n ≤ W.heap.size) := fun _ _ _ _ hs hg _ => Nat.le_trans hs hg.size

set_option maxRecDepth 100000 in
set_option maxHeartbeats 2000000 in
theorem feed_calls (D : Nat) (part b : ByteArray) (cr : Bool) (w : World) (hs : part.size + b.size ≤ 268435456) (hT : Tabs w) (hD : w.heap[D]? = some (.cells #[.string part, .bool cr] 33 (0, 0)))
    (hg1 : 0 < D) (hg2 : 1 < D) :
    Calls Tryd.prog 13 #[.pointer (some ⟨D, 0, none⟩), .string b] w fun e w' =>
      e = .returned (.string ⟨(crF cr (pts ((part ++ b).data.toList.take (waitsP (part ++ b).data.toList)))).1.toArray⟩) ∧
      w'.heap[D]? = some (.cells #[.string ((part ++ b).extract (waitsP (part ++ b).data.toList) (part ++ b).size), .bool (crF cr (pts ((part ++ b).data.toList.take (waitsP (part ++ b).data.toList)))).2] 33 (0, 0)) ∧ Below D w w' := by
  have hDlt : D < w.heap.size := (Array.getElem?_eq_some_iff.1 hD).1
  have d0 : w.cell? ⟨D, 0, none⟩ = some (.string part) := by rw [cell_of_heap' hD]; rfl
  have d1 : w.cell? ⟨D, 1, none⟩ = some (.bool cr) := by rw [cell_of_heap' hD]; rfl
  have df : ∀ j, w.frozen? ⟨D, j, none⟩ = false := frozen_at rfl hD
  refine (callsIn_wide (n := 5)).1 ?_
  refine callsIn_of_wp_marks Tryd.func13 rfl trivial ?_ rfl
  simp only [Tryd.ntmps13, List.size_toArray, List.length_cons, List.length_nil, Nat.reduceAdd, Nat.reduceSub, Array.replicate_succ, Array.replicate_zero, List.push_toArray, List.append_toArray, List.nil_append, List.cons_append]
  gi_wp2_with fail
  have hwa := waitsP_le (part ++ b).data.toList
  have hsz : (part ++ b).data.toList.length = (part ++ b).size := by simp
  rw [hsz] at hwa
  have hab : (part ++ b).size = part.size + b.size := by simp
  generalize hpb : part ++ b = pb at *
  generalize hat : waitsP pb.data.toList = at_ at *
  refine ⟨trivial, ?_⟩
  refine (callsIn_wide.2 (waits_calls pb _ (by omega))).mono ?_
  rw [hat]
  rintro e w2 ⟨rfl, hb2⟩
  have hD2 : w2.heap[D]? = some (.cells #[.string ⟨#[]⟩, .bool cr] 33 (0, 0)) := by
    rw [hb2.block D (by simp [World.setCell]; omega)]
    rw [Below.heap_alloc _ _ _ (by simpa [World.setCell] using hDlt)]
    simp [World.setCell, Array.getElem?_modify, hD]
  have hx2 : w2.heap[w.heap.size]? = some (.cells #[.pointer (some ⟨D, 0, none⟩)] 31 (0, 0)) := by
    rw [hb2.block w.heap.size (by simp [World.setCell])]
    have := heap_alloc_new (w.setCell ⟨D, 0, none⟩ (.string ⟨#[]⟩)) (.cells #[.pointer (some ⟨D, 0, none⟩)] 31)
    simpa [World.setCell] using this
  have hbw2 : Below D w w2 := (((Below.refl D w).setCell (p := ⟨D, 0, none⟩) (Nat.le_refl _) (.string ⟨#[]⟩)).alloc (by simp [World.setCell]; omega) (.cells #[.pointer (some ⟨D, 0, none⟩)] 31)).trans (hb2.mono (by simp [World.setCell]; omega))
  have hlt2 : w.heap.size < w2.heap.size := (Array.getElem?_eq_some_iff.1 hx2).1
  have x0 : w2.cell? ⟨w.heap.size, 0, none⟩ = some (.pointer (some ⟨D, 0, none⟩)) := by rw [cell_of_heap' hx2]; rfl
  have e0 : w2.cell? ⟨D, 0, none⟩ = some (.string ⟨#[]⟩) := by rw [cell_of_heap' hD2]; rfl
  have e1 : w2.cell? ⟨D, 1, none⟩ = some (.bool cr) := by rw [cell_of_heap' hD2]; rfl
  have ef : ∀ j, w2.frozen? ⟨D, j, none⟩ = false := frozen_at rfl hD2
  have hneD : D ≠ w.heap.size := by omega
  have HAT := Lib.hid hat
  have HPB := Lib.hid hpb
  clear hb2 d0 d1 df hat hpb
  have hat0 : (at_ : Int) ≤ pb.size := by omega
  have hpbs : pb.size ≤ 268435456 := by omega
  have HAB := Lib.hid hab
  clear hab hs
  gi_wp2_with fail
  gi_region
  gi_wp2_with (refine ⟨trivial, ?_⟩; gi_at_call 31; refine (callsIn_wide.2 (pointsF_calls _ _)).mono ?_; rintro e w' ⟨rfl, rfl⟩)
  generalize hWL : World.drew _ = WL
  have hxl : (pb.extract 0 at_).size ≤ 268435456 := by simp; omega
  have hxd : Hid ((pb.extract 0 at_).data.toList = pb.data.toList.take at_) := by unfold Hid; rw [Lib.extract_data]; simp
  generalize pb.extract 0 at_ = x at *
  generalize hy : pb.extract at_ pb.size = y at *
  have hDL : WL.heap[D]? = some (.cells #[.string y, .bool cr] 33 (0, 0)) := by
    rw [← hWL]
    show (World.alloc _ _).heap[D]? = _
    rw [Below.heap_alloc _ _ _ (by simp [World.setCell]; omega), Below.heap_alloc _ _ _ (by simp [World.setCell]; omega)]
    simp [World.setCell, Array.getElem?_modify, hD2]
  have hXL : WL.heap[w.heap.size]? = some (.cells #[.pointer (some ⟨D, 0, none⟩)] 31 (0, 0)) := by
    rw [← hWL]
    show (World.alloc _ _).heap[w.heap.size]? = _
    rw [Below.heap_alloc _ _ _ (by simp [World.setCell]; omega), Below.heap_alloc _ _ _ (by simp [World.setCell]; omega), Below.heap_setCell _ _ _ _ (by simp; omega)]
    exact hx2
  have hPL : WL.heap[w2.heap.size + 1]? = some (.cells #[.string x] 9 (0, 0)) := by
    rw [← hWL]
    have := heap_alloc_new ((w2.setCell ⟨D, 0, none⟩ (.string y)).alloc (.cells #[.pointer none, .slice none 0 0] 54)) (.cells #[.string x] 9)
    have e : (w2.setCell ⟨D, 0, none⟩ (.string y)).heap.size = w2.heap.size := by simp [World.setCell]
    rw [World.size_alloc, e] at this
    exact this
  have hBL : BdF w2.heap.size w2.heap.size [] WL := by
    rw [← hWL]
    have := (BdF.fresh (w2.setCell ⟨D, 0, none⟩ (.string y))).alloc (.cells #[.string x] 9)
    have e : (w2.setCell ⟨D, 0, none⟩ (.string y)).heap.size = w2.heap.size := by simp [World.setCell]
    rw [e] at this
    exact this
  have hSL : WL.heap.size = w2.heap.size + 2 := by rw [← hWL]; simp [World.setCell]
  have hbL : Below D w WL := by
    rw [← hWL]
    exact (((hbw2.setCell (p := ⟨D, 0, none⟩) (Nat.le_refl _) (.string y)).alloc (by simp [World.setCell]; omega) _).alloc (by simp [World.setCell]; omega) _).drew
  have hTL : Tabs WL := hT.kept (hbL.block _ hg1) (hbL.block _ hg2)
  have hpl := pts_le x.data.toList
  rw [show x.data.toList.length = x.size by simp] at hpl
  refine wpIn_rangeFunc_ownF rfl (by omega) (gf := 43) (lb := #[.pointer (some ⟨w2.heap.size + 1, 0, none⟩)]) rfl trivial (enters_of Tryd.func43 (by kernel_rfl) rfl)
    (points_stops _ (by omega) (w2.heap.size + 1) x (by omega) _ hPL hTL) kp3_t
    (fun W l o o' hl hW _ _ b hb => World.putObj_heap_other (by
      rcases hb with rfl | rfl | rfl <;> omega)) (Below.refl _ _) (fun _ => rfl)
    (fun pre W => BdF w2.heap.size w2.heap.size (crF cr pre).1 W ∧ W.heap[w2.heap.size + 1]? = some (.cells #[.string x] 9 (0, 0)) ∧ W.heap[w.heap.size]? = some (.cells #[.pointer (some ⟨D, 0, none⟩)] 31 (0, 0)) ∧ W.heap[D]? = some (.cells #[.string y, .bool (crF cr pre).2] 33 (0, 0)) ∧ w2.heap.size + 2 ≤ W.heap.size ∧ Below D w W)
    (fun _ _ _ => False)
    (OwnFrom.and (Own.from (bdF_own _ _ _) _) (OwnFrom.and (Own.from (block_own _ _ _ _) _) (OwnFrom.and (Own.from (block_own _ _ _ _) _) (OwnFrom.and (Own.from (block_own' _ _ _ _) _) (OwnFrom.and (size_own _ _) (ownFrom_below (by omega) (by omega)))))))
    (fun _ _ _ _ _ hs _ _ => hs)
    ⟨hBL, hPL, hXL, hDL, by omega, hbL⟩
    (fun p => { tmps := #[Value.pointer (some ⟨D, 0, none⟩), Value.string x, Value.pointer (some ⟨w.heap.size, 0, none⟩), undef, Value.string ⟨#[]⟩, Value.int .i64 at_, Value.pointer (some ⟨w2.heap.size, 0, none⟩), undef, Value.int .i32 (clp p.2), undef, Value.pointer (some ⟨D, 0, none⟩), Value.pointer (some ⟨D, 0, none⟩), Value.pointer (some ⟨D, 0, none⟩), Value.string part, Value.string b, Value.string pb, Value.pointer (some ⟨D, 0, none⟩), Value.pointer (some ⟨D, 0, none⟩), Value.pointer (some ⟨D, 0, none⟩), Value.string pb, Value.int .i64 at_, Value.pointer (some ⟨D, 0, none⟩), Value.string pb, Value.int .i64 at_, Value.string x, Value.string pb, Value.int .i64 at_, Value.string y, Value.pointer (some ⟨D, 0, none⟩), Value.pointer (some ⟨D, 0, none⟩), Value.string x, Value.func (.func 43) #[] #[.pointer (some ⟨w2.heap.size + 1, 0, none⟩)], Value.int .i64 (p.1 : Nat), Value.int .i32 (clp p.2), undef, undef, undef, undef, undef, undef, undef, undef, undef, undef, undef, undef, undef, undef, undef, undef, undef, undef, undef, undef, undef, undef, undef, undef], defers := [] }) ?assign ?body ?done ?stop
  case assign =>
    intro l p W K hK
    dsimp only [ptV]
    gi_wp2
    exact hK
  case body =>
    rintro l pre p W ⟨hB, hP, hX, hDW, hS, hbw⟩ hlen
    have hcl := clp_range p.2
    have hle := crF_le cr pre
    have HSN := Lib.hid (crF_snoc cr pre p)
    have x0 : W.cell? ⟨w.heap.size, 0, none⟩ = some (.pointer (some ⟨D, 0, none⟩)) := by rw [cell_of_heap' hX]; rfl
    have d0 : W.cell? ⟨D, 0, none⟩ = some (.string y) := by rw [cell_of_heap' hDW]; rfl
    have d1 : W.cell? ⟨D, 1, none⟩ = some (.bool (crF cr pre).2) := by rw [cell_of_heap' hDW]; rfl
    have df : ∀ j, W.frozen? ⟨D, j, none⟩ = false := frozen_at rfl hDW
    generalize hc : (crF cr pre).2 = c at *
    generalize ho : (crF cr pre).1 = out at *
    have HC := Lib.hid hc
    have HO := Lib.hid ho
    clear hc ho
    generalize clp p.2 = r at *
    have hDn : D ≠ w.heap.size := by omega
    have hB1 : ∀ v, BdF w2.heap.size w2.heap.size out (W.setCell ⟨D, 1, none⟩ v) := fun v => hB.setCell (by omega) 1 v
    have hP1 : ∀ v, (W.setCell ⟨D, 1, none⟩ v).heap[w2.heap.size + 1]? = some (.cells #[.string x] 9 (0, 0)) := fun v => (Below.heap_setCell _ _ _ _ (by simp; omega)).trans hP
    have hX1 : ∀ v, (W.setCell ⟨D, 1, none⟩ v).heap[w.heap.size]? = some (.cells #[.pointer (some ⟨D, 0, none⟩)] 31 (0, 0)) := fun v => (Below.heap_setCell _ _ _ _ (by simp; omega)).trans hX
    have hD1 : ∀ v, (W.setCell ⟨D, 1, none⟩ v).heap[D]? = some (.cells #[.string y, v] 33 (0, 0)) := fun v => by simp [World.setCell, Array.getElem?_modify, hDW]
    have hS1 : ∀ v, w2.heap.size + 2 ≤ (W.setCell ⟨D, 1, none⟩ v).heap.size := fun v => by simpa [World.setCell] using hS
    have hb1 : ∀ v, Below D w (W.setCell ⟨D, 1, none⟩ v) := fun v => hbw.setCell (p := ⟨D, 1, none⟩) (Nat.le_refl _) v
    have HP1 := Lib.hid hP1
    have HX1 := Lib.hid hX1
    have HD1 := Lib.hid hD1
    clear hP1 hX1 hD1
    have HKP : Hid (∀ (v : Value) (W' : World), Below w2.heap.size (W.setCell ⟨D, 1, none⟩ v) W' → Lib.OthersKept 5 (some w2.heap.size) (W.setCell ⟨D, 1, none⟩ v) W' →
        KeepsOthers W W' ∧ Kp3 (w2.heap.size + 1) W W' ∧ W'.heap[w2.heap.size + 1]? = some (.cells #[.string x] 9 (0, 0)) ∧ W'.heap[w.heap.size]? = some (.cells #[.pointer (some ⟨D, 0, none⟩)] 31 (0, 0)) ∧ W'.heap[D]? = some (.cells #[.string y, v] 33 (0, 0)) ∧ w2.heap.size + 2 ≤ W'.heap.size ∧ Below D w W') := by
      intro v W' hbl hok
      have hs2 := hbl.size
      have hs3 := hS1 v
      refine ⟨(KeepsOthers.setCell _ _ _).trans (keeps_of (hB1 v) hok hs2), ?_, (hok _ _ (HP1.out v) (by simp) (by intro c fz e; cases e)), (hbl.block _ (by omega)).trans (HX1.out v), (hbl.block _ (by omega)).trans (HD1.out v), by omega, (hb1 v).trans (hbl.mono (by omega))⟩
      refine kp3_t ?_ (kp3_kept (HP1.out v) (by omega) hok hbl (by omega) (by omega))
      intro b hb
      refine Below.heap_setCell _ _ _ _ ?_
      rcases hb with rfl | rfl | rfl <;> simp <;> omega
    have hsW := hS1
    by_cases h13 : r = 13
    · have hr : (r == 13) = true := by simp [h13]
      have HF : Hid (crF cr (pre ++ [p]) = (out ++ [10], true)) := by
        unfold Hid; rw [HSN.out]; unfold crStep; rw [if_pos h13, HO.out]; simp [h13]
      clear h13
      gi_wp2_with fail
      refine ⟨trivial, ?_⟩
      refine (CallsIn.inRound l (callsIn_wide.2 (writeByteF_calls w2.heap.size w2.heap.size out 10 _ (hB1 _) (by omega) (by have := hS1 (.bool true); omega)))).mono ?_
      rintro e W2 ⟨rfl, hB2, hbl, hok⟩
      have HR := Lib.hid (HKP.out _ _ hbl hok)
      gi_wp2
      obtain ⟨k1, k2, k3, k4, k5, k6, k7⟩ := HR.out
      exact ⟨k1, k2, by rw [HF.out]; exact hB2, k3, k4, by rw [HF.out]; exact k5, k6, k7⟩
    · have hr : (r == 13) = false := by simpa using h13
      by_cases h10 : r = 10
      · have hr10 : (r == 10) = true := by simp [h10]
        cases c with
        | true =>
          have HF : Hid (crF cr (pre ++ [p]) = (out, false)) := by
            unfold Hid; rw [HSN.out]; unfold crStep; rw [if_neg h13, if_pos ⟨h10, HC.out⟩, HO.out]; simp [h13]
          clear h13 h10
          have HR := Lib.hid (HKP.out (.bool false) _ (Below.refl _ _) (Lib.OthersKept.refl _ _ _))
          have HB2 := Lib.hid (hB1 (.bool false))
          gi_wp2
          obtain ⟨k1, k2, k3, k4, k5, k6, k7⟩ := HR.out
          exact ⟨k1, k2, by rw [HF.out]; exact HB2.out, k3, k4, by rw [HF.out]; exact k5, k6, k7⟩
        | false =>
          have HF : Hid (crF cr (pre ++ [p]) = (out ++ Lib.encodeRune r, false)) := by
            unfold Hid; rw [HSN.out]; unfold crStep; rw [if_neg h13, if_neg (by rw [HC.out]; simp), HO.out]; simp [h13]
          clear h13 h10
          gi_wp2_with fail
          refine ⟨trivial, ?_⟩
          refine (CallsIn.inRound l (callsIn_wide.2 (writeRune_calls w2.heap.size w2.heap.size out r (by omega) (by omega) _ (hB1 _) (by omega) (by have := hS1 (.bool false); omega)))).mono ?_
          rintro e W2 ⟨⟨m, rfl⟩, hB2, hbl, hok⟩
          have HR := Lib.hid (HKP.out _ _ hbl hok)
          gi_wp2
          obtain ⟨k1, k2, k3, k4, k5, k6, k7⟩ := HR.out
          exact ⟨k1, k2, by rw [HF.out]; exact hB2, k3, k4, by rw [HF.out]; exact k5, k6, k7⟩
      · have hr10 : (r == 10) = false := by simpa using h10
        have HF : Hid (crF cr (pre ++ [p]) = (out ++ Lib.encodeRune r, false)) := by
          unfold Hid; rw [HSN.out]; unfold crStep; rw [if_neg h13, if_neg (fun h => h10 h.1), HO.out]; simp [h13]
        clear h13 h10
        gi_wp2_with fail
        refine ⟨trivial, ?_⟩
        refine (CallsIn.inRound l (callsIn_wide.2 (writeRune_calls w2.heap.size w2.heap.size out r (by omega) (by omega) _ (hB1 _) (by omega) (by have := hS1 (.bool false); omega)))).mono ?_
        rintro e W2 ⟨⟨m, rfl⟩, hB2, hbl, hok⟩
        have HR := Lib.hid (HKP.out _ _ hbl hok)
        gi_wp2
        obtain ⟨k1, k2, k3, k4, k5, k6, k7⟩ := HR.out
        exact ⟨k1, k2, by rw [HF.out]; exact hB2, k3, k4, by rw [HF.out]; exact k5, k6, k7⟩
  case done =>
    rintro D' ys W hD' rfl ⟨hB, hP, hX, hDW, hS, hbw⟩ hK
    have hB' := hB
    gi_wp2_with fail
    refine ⟨trivial, ?_⟩
    refine (callsIn_wide.2 (stringF_calls w2.heap.size w2.heap.size _ _ hB (by omega))).mono ?_
    rintro e W2 ⟨rfl, hb2, hk2⟩
    have hD2' : W2.heap[D]? = _ := (hb2.block D (by omega)).trans hDW
    have hK2 : W2.heap[D']? = some (.deferred (some [])) := hk2 _ _ hK (by simp; omega) (by intro c fz e; cases e)
    have hbw2' := hbw.trans (hb2.mono (by omega))
    have hxd' : Hid (x.data.toList = pb.data.toList.take at_) := hxd
    clear hK hWL hBL hPL hXL hDL hTL hbL x0 e0 e1 ef hx2 hD2
    gi_wp2
    refine ⟨by simp, .inl ⟨_, _, rfl, run_takeDeferred hK2, ?_⟩⟩
    refine ⟨_, results_tmp rfl _ _ _, ?_, ?_, hbw2'.trans (belowK_b (w := w) (by omega) W2 D' _ _ (by omega) hK2 rfl rfl)⟩
    · show Ending.returned (.string ⟨(crF cr (pts x.data.toList)).1.toArray⟩) = _
      rw [HPB.out, HAT.out, ← hxd'.out]
    · rw [HPB.out, HAT.out, ← hxd'.out, hy]
      exact (World.putObj_heap_other (by omega)).trans hD2'
  case stop =>
    rintro D c pre W hD _ h _
    exact h.elim
end Go.Proofs.YteffnlelmcbgmaaDoor
