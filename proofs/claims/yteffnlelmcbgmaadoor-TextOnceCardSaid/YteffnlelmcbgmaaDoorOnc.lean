/-
  The walk of lacunalaw01.TextOnce: it returns true. The condition: the tables and the library's shape stand.
-/
import Derived.Test.YteffnlelmcbgmaaDoorWrc
import Derived.Test.YteffnlelmcbgmaaDoorVal
set_option linter.unusedVariables false
namespace Go.Proofs.YteffnlelmcbgmaaDoor
open Go.RowKit Go.Shelf Go.Lib

attribute [local go_sem] Oper.semAt_some

/-- How many code points are 13. -/
def n13 (l : List (Nat × Int)) : Nat := l.countP fun x => clp x.2 = 13
theorem n13_snoc (l : List (Nat × Int)) (x : Nat × Int) : n13 (l ++ [x]) = n13 l + (if clp x.2 = 13 then 1 else 0) := by
  simp [n13, List.countP_append, List.countP_cons]
theorem n13_le (l : List (Nat × Int)) : n13 l ≤ l.length := List.countP_le_length
theorem n13_zero (l : List UInt8) (h : n13 (pts l) = 0) : (13 : Int) ∉ rns l := by
  rw [← pts_map]
  intro hm
  obtain ⟨x, hx, h13⟩ := List.mem_map.1 hm
  have := List.countP_eq_zero.1 h x hx
  simp [h13] at this

theorem once_no13 (l : List UInt8) (i : ByteArray) (hi : i = ⟨(inp l).toArray⟩) (k : Nat) (hk : k < i.size) : ((i[k].toNat : Int) == 13) = false := by
  rw [beq_eq_false_iff_ne]
  intro e
  have hm : i[k] ∈ i.data.toList := by
    have : i[k] = i.data.toList[k]'(by simpa using hk) := rfl
    rw [this]; exact List.getElem_mem _
  have h13 : i[k] = 13 := UInt8.toNat_inj.1 (by show _ = 13; omega)
  rw [h13, hi] at hm
  exact nrm_no13 _ hm
theorem once_is (b s : ByteArray) (hs : s = ⟨(decd b.data.toList).toArray⟩) : (s.toList == b.toList) = validD b.data.toList := by
  rw [Lib.toList_data, Lib.toList_data, Bool.eq_iff_iff, valid_decd, beq_iff_eq, hs]

set_option maxRecDepth 100000 in
set_option maxHeartbeats 2000000 in
theorem once_walk (b : ByteArray) (w : World) (hsh : Sh w) (hT : Tabs w) :
    Calls Tryd.prog 8 #[.string b] w fun e w' => e = .returned (.bool true) ∧ Below w.heap.size w w' := by
  have HS := Lib.hid hsh
  have HT := Lib.hid hT
  clear hsh hT
  by_cases hb : 16384 < b.size
  · have hb' : (16384 : Int) < b.size := by omega
    go_enter Tryd.func8, Tryd.ntmps8
    go_wp2_with fail
    refine (works_calls _ HS.out HT.out).mono ?_
    rintro e w1 ⟨rfl, hb1⟩
    go_wp2
    go_ret
    exact ⟨rfl, hb1⟩
  have hb' : ¬ ((16384 : Int) < b.size) := by omega
  have HD : Hid (∀ (s : ByteArray) (w : World), s.size ≤ 1099511627776 → Tabs w → Calls Tryd.prog 15 #[.string s] w fun e w' => ∃ t : ByteArray, e = .returned (.string t) ∧ Hid (t = ⟨(decd s.data.toList).toArray⟩) ∧ t.size ≤ 4 * s.size ∧ Below w.heap.size w w') := fun s w h1 h2 =>
    (decodeT_calls s w h1 h2).mono fun e w' h => ⟨_, h.1, rfl, by have := decd_le s.data.toList; simpa [ba_len] using this, h.2⟩
  have HI : Hid (∀ (s : ByteArray) (w : World), s.size ≤ 16777216 → Sh w → Tabs w → Calls Tryd.prog 12 #[.string s] w fun e w' => ∃ t : ByteArray, e = .returned (.string t) ∧ Hid (t = ⟨(inp s.data.toList).toArray⟩) ∧ t.size ≤ 4 * s.size ∧ Below w.heap.size w w') := fun s w h1 h2 h3 =>
    (input_calls s h1 w h2 h3).mono fun e w' h => ⟨_, h.1, rfl, by
      have := decd_le s.data.toList
      have h2 := nrm_le (decd s.data.toList)
      rw [show s.data.toList.length = s.size by simp] at this
      rw [ba_len]; unfold inp; omega, h.2⟩
  refine (callsIn_wide (n := 5)).1 ?_
  refine callsIn_of_wp_marks Tryd.func8 rfl trivial ?_ rfl
  simp only [Tryd.ntmps8, List.size_toArray, List.length_cons, List.length_nil, Nat.reduceAdd, Nat.reduceSub, Array.replicate_succ, Array.replicate_zero, List.push_toArray, List.append_toArray, List.nil_append, List.cons_append]
  gi_wp2_with fail
  refine ⟨trivial, ?_⟩
  refine (callsIn_wide.2 (works_calls _ HS.out HT.out)).mono ?_
  rintro e w1 ⟨rfl, hb1⟩
  gi_wp2_with fail
  refine ⟨trivial, ?_⟩
  refine (callsIn_wide.2 (HD.out b _ (by omega) (HT.out.below hb1))).mono ?_
  rintro e w2 ⟨s, rfl, hs, hsl, hb2⟩
  have hb2' := hb1.trans (hb2.mono hb1.size)
  clear hb1 hb2
  gi_wp2_with fail
  refine ⟨trivial, ?_⟩
  refine (callsIn_wide.2 (HI.out b _ (by omega) (HS.out.below hb2') (HT.out.below hb2'))).mono ?_
  rintro e w3 ⟨i, rfl, hi, hil, hb3⟩
  have hb3' := hb2'.trans (hb3.mono hb2'.size)
  clear hb2' hb3
  gi_wp2_with (refine ⟨trivial, ?_⟩; gi_at_call 31; refine (callsIn_wide.2 (pointsF_calls _ _)).mono ?_; rintro e w' ⟨rfl, rfl⟩)
  generalize hWL : World.alloc _ _ = WL
  have hs3 := hb3'.size
  have hSL : WL.heap.size = w3.heap.size + 2 := by rw [← hWL]; simp
  have hPL : WL.heap[w3.heap.size + 1]? = some (.cells #[.string b] 9 (0, 0)) := by
    rw [← hWL]
    have := heap_alloc_new (w3.alloc (.cells #[.int .i64 0] 3)) (.cells #[.string b] 9)
    rw [World.size_alloc] at this
    exact this
  have hXL : WL.heap[w3.heap.size]? = some (.cells #[.int .i64 0] 3 (0, 0)) := by
    rw [← hWL, Below.heap_alloc _ _ _ (by simp)]
    exact heap_alloc_new w3 (.cells #[.int .i64 0] 3)
  have hbL : Below w.heap.size w WL := by
    rw [← hWL]
    exact (hb3'.alloc hs3 _).alloc (by simp; omega) _
  have hTL : Tabs WL := HT.out.below hbL
  have hgl := HT.out.lt
  clear hWL hb3'
  have hpl := pts_le b.data.toList
  rw [show b.data.toList.length = b.size by simp] at hpl
  refine wpIn_rangeFunc_ownF rfl (by omega) (gf := 43) (lb := #[.pointer (some ⟨w3.heap.size + 1, 0, none⟩)]) rfl trivial (enters_of Tryd.func43 (by kernel_rfl) rfl)
    (points_stops _ (by omega) (w3.heap.size + 1) b (by omega) _ hPL hTL) kp3_t
    (fun W l o o' hl hW _ _ b hb => World.putObj_heap_other (by
      rcases hb with rfl | rfl | rfl <;> omega)) (Below.refl _ _) (fun _ => rfl)
    (fun pre W => W.heap[w3.heap.size + 1]? = some (.cells #[.string b] 9 (0, 0)) ∧ W.heap[w3.heap.size]? = some (.cells #[.int .i64 (n13 pre : Nat)] 3 (0, 0)) ∧ w3.heap.size + 2 ≤ W.heap.size ∧ Below w.heap.size w W)
    (fun _ _ _ => False)
    (OwnFrom.and (Own.from (block_own _ _ _ _) _) (OwnFrom.and (Own.from (block_own' _ _ _ _) _) (OwnFrom.and (size_own _ _) (ownFrom_below (by omega) (by omega)))))
    (fun _ _ _ _ _ hs _ _ => hs)
    ⟨hPL, hXL, by omega, hbL⟩
    (fun p => { tmps := #[Value.string b, undef, Value.bool false, Value.bool true, Value.string s, Value.string i,
          Value.pointer (some { block := w3.heap.size, off := 0 }), undef, Value.int .i32 (clp p.2), undef, undef, Value.bool true,
          Value.bool true, Value.bool false, Value.string b, Value.int IntKind.i64 b.size,
          Value.bool (decide ((16384 : Int) < b.size)), undef, Value.string b, Value.string s, Value.string b, Value.string i,
          Value.string b, Value.func (Fn.func 43) #[] #[Value.pointer (some { block := w3.heap.size + 1, off := 0 })],
          Value.int .i64 (p.1 : Nat), Value.int .i32 (clp p.2), undef, undef, undef, undef, undef, undef, undef, undef, undef, undef, undef, undef, undef, undef, undef, undef, undef, undef, undef, undef, undef, undef, undef, undef, undef, undef, undef, undef, undef, undef, undef, undef, undef, undef, undef, undef, undef, undef, undef, undef, undef, undef, undef, undef, undef, undef, undef, undef, undef, undef, undef, undef, undef], defers := [] }) ?assign ?body ?done ?stop
  case assign =>
    intro l p W K hK
    dsimp only [ptV]
    gi_wp2
    exact hK
  case body =>
    rintro l pre p W ⟨hP, hX, hS, hbw⟩ hlen
    have c0 : W.cell? ⟨w3.heap.size, 0, none⟩ = some (.int .i64 (n13 pre : Nat)) := by rw [cell_of_heap' hX]; rfl
    have cf : ∀ j, W.frozen? ⟨w3.heap.size, j, none⟩ = false := frozen_at rfl hX
    have HN := Lib.hid (n13_snoc pre p)
    have hnl := n13_le pre
    generalize n13 pre = q at *
    generalize clp p.2 = r at *
    by_cases h13 : r = 13
    · have hr : (r == 13) = true := by simp [h13]
      rw [if_pos h13] at HN
      clear h13
      gi_wp2
      have hset : (W.setCell ⟨w3.heap.size, 0, none⟩ (.int .i64 ((q : Int) + 1))).heap[w3.heap.size]? = some (.cells #[.int .i64 ((q : Int) + 1)] 3 (0, 0)) := by simp [World.setCell, Array.getElem?_modify, hX]
      refine ⟨KeepsOthers.setCell _ _ _, ?_, (Below.heap_setCell _ _ _ _ (by simp)).trans hP, by rw [hset, HN.out]; rfl, by simpa [World.setCell] using hS, hbw.setCell (p := ⟨w3.heap.size, 0, none⟩) (by simpa using hs3) _⟩
      intro b hb
      refine Below.heap_setCell _ _ _ _ ?_
      rcases hb with rfl | rfl | rfl <;> dsimp only <;> omega
    · have hr : (r == 13) = false := by simpa using h13
      rw [if_neg h13] at HN
      clear h13
      gi_wp2
      refine ⟨KeepsOthers.refl _, fun _ _ => rfl, hP, by rw [HN.out]; exact hX, hS, hbw⟩
  case done =>
    rintro D ys W hD rfl ⟨hP, hX, hS, hbw⟩ hK
    have hD' : w3.heap.size + 2 ≤ D := by omega
    have c0 : W.cell? ⟨w3.heap.size, 0, none⟩ = some (.int .i64 (n13 (pts b.data.toList) : Nat)) := by rw [cell_of_heap' hX]; rfl
    have HNO : Hid (∀ k (hk : k < i.size), ((i[k].toNat : Int) == 13) = false) := once_no13 _ i hi.out
    have HIS := Lib.hid (once_is b s hs.out)
    have HEQ : Hid (n13 (pts b.data.toList) = 0 → i = s) := by
      intro h
      rw [hi.out, hs.out, once_same _ (n13_zero _ h)]
    have HVB : Hid (∀ w, Tabs w → Calls Tryd.prog 29 #[.string b] w fun e w' => e = .returned (.bool (s.toList == b.toList)) ∧ Below w.heap.size w w') := by
      rw [HIS.out]; exact fun w h => valid_calls b (by omega) w h
    have HVS : Hid (∀ w, Tabs w → Calls Tryd.prog 29 #[.string s] w fun e w' => e = .returned (.bool true) ∧ Below w.heap.size w w') := by
      have := once_valid1 b.data.toList
      intro w h
      have h2 := valid_calls s (by omega) w h
      rwa [show validD s.data.toList = true by rw [hs.out]; exact this] at h2
    have HVI : Hid (∀ w, Tabs w → Calls Tryd.prog 29 #[.string i] w fun e w' => e = .returned (.bool true) ∧ Below w.heap.size w w') := by
      have := once_valid2 b.data.toList
      intro w h
      have h2 := valid_calls i (by omega) w h
      rwa [show validD i.data.toList = true by rw [hi.out]; exact this] at h2
    have HDS : Hid (∀ w, Tabs w → Calls Tryd.prog 15 #[.string s] w fun e w' => e = .returned (.string s) ∧ Below w.heap.size w w') := by
      have := decd_decd b.data.toList
      intro w h
      have h2 := decodeT_calls s w (by omega) h
      rwa [show (⟨(decd s.data.toList).toArray⟩ : ByteArray) = s by rw [hs.out]; simp only [this]] at h2
    have HII : Hid (∀ w, Sh w → Tabs w → Calls Tryd.prog 12 #[.string i] w fun e w' => e = .returned (.string i) ∧ Below w.heap.size w w') := by
      have := once_inp b.data.toList
      intro w h1 h
      have h2 := input_calls i (by omega) w h1 h
      rwa [show (⟨(inp i.data.toList).toArray⟩ : ByteArray) = i by rw [hi.out]; simp only [this]] at h2
    have hn0 := n13_le (pts b.data.toList)
    generalize n13 (pts b.data.toList) = q at *
    clear HIS
    gi_wp2_with fail
    gi_loop [9] (fun v => ∃ k : Nat, k ≤ i.size ∧ v = .int .i64 k) (fun v => i.size - (RowKit.intOf v).toNat)
    case atStart => exact ⟨0, by omega, rfl⟩
    case round =>
      obtain ⟨k, hk, rfl⟩ := hrel
      by_cases hlt : k < i.size
      · have h13 := HNO.out k hlt
        gi_wp2
        exact ⟨⟨k + 1, by omega, by go_num⟩, by simp [RowKit.intOf]; omega⟩
      · have hke : k = i.size := by omega
        subst hke
        gi_wp2_with fail
        refine ⟨trivial, ?_⟩
        refine (callsIn_wide.2 (HVB.out _ (HT.out.below hbw))).mono ?_
        rintro e W4 ⟨rfl, hb4⟩
        have hb4' := hbw.trans (hb4.mono hbw.size)
        have hX4 := (hb4.block _ (by omega)).trans hX
        have hK4 := (hb4.block D (Array.getElem?_eq_some_iff.1 hK).1).trans hK
        have hS4 : w3.heap.size + 2 ≤ W4.heap.size := Nat.le_trans hS hb4.size
        clear hb4 hX hK hS hbw hP c0 HVB
        gi_wp2_with fail
        refine ⟨trivial, ?_⟩
        refine (callsIn_wide.2 (HVS.out _ (HT.out.below hb4'))).mono ?_
        rintro e W5 ⟨rfl, hb5⟩
        have hb5' := hb4'.trans (hb5.mono hb4'.size)
        have hX5 := (hb5.block _ (by omega)).trans hX4
        have hK5 := (hb5.block D (Array.getElem?_eq_some_iff.1 hK4).1).trans hK4
        have hS5 : w3.heap.size + 2 ≤ W5.heap.size := Nat.le_trans hS4 hb5.size
        clear hb5 hX4 hK4 hS4 hb4' HVS
        gi_wp2_with fail
        refine ⟨trivial, ?_⟩
        refine (callsIn_wide.2 (HVI.out _ (HT.out.below hb5'))).mono ?_
        rintro e W6 ⟨rfl, hb6⟩
        have hb6' := hb5'.trans (hb6.mono hb5'.size)
        have hX6 := (hb6.block _ (by omega)).trans hX5
        have hK6 := (hb6.block D (Array.getElem?_eq_some_iff.1 hK5).1).trans hK5
        have hS6 : w3.heap.size + 2 ≤ W6.heap.size := Nat.le_trans hS5 hb6.size
        clear hb6 hX5 hK5 hS5 hb5' HVI
        gi_wp2_with fail
        refine ⟨trivial, ?_⟩
        refine (callsIn_wide.2 (HDS.out _ (HT.out.below hb6'))).mono ?_
        rintro e W7 ⟨rfl, hb7⟩
        have hb7' := hb6'.trans (hb7.mono hb6'.size)
        have hX7 := (hb7.block _ (by omega)).trans hX6
        have hK7 := (hb7.block D (Array.getElem?_eq_some_iff.1 hK6).1).trans hK6
        have hS7 : w3.heap.size + 2 ≤ W7.heap.size := Nat.le_trans hS6 hb7.size
        clear hb7 hX6 hK6 hS6 hb6' HDS
        gi_wp2_with fail
        refine ⟨trivial, ?_⟩
        refine (callsIn_wide.2 (HII.out _ (HS.out.below hb7') (HT.out.below hb7'))).mono ?_
        rintro e W8 ⟨rfl, hb8⟩
        have hb8' := hb7'.trans (hb8.mono hb7'.size)
        have hX8 := (hb8.block _ (by omega)).trans hX7
        have hK8 := (hb8.block D (Array.getElem?_eq_some_iff.1 hK7).1).trans hK7
        have hS8 : w3.heap.size + 2 ≤ W8.heap.size := Nat.le_trans hS7 hb8.size
        clear hb8 hX7 hK7 hS7 hb7' HII
        have c0 : W8.cell? ⟨w3.heap.size, 0, none⟩ = some (.int .i64 (q : Nat)) := by rw [cell_of_heap' hX8]; rfl
        have hfin := belowK_b (w := w) (Nat.le_refl _) W8 D _ (.deferred none) (by omega) hK8 rfl rfl
        by_cases hq : q = 0
        · have his := HEQ.out hq
          subst his
          subst hq
          gi_wp2
          all_goals refine ⟨by simp, .inl ⟨_, _, rfl, run_takeDeferred hK8, ?_⟩⟩
          all_goals exact ⟨_, results_tmp rfl _ _ _, rfl, hb8'.trans hfin⟩
        · have hq' : (0 : Int) < q := by omega
          clear hq HEQ
          gi_wp2
          all_goals refine ⟨by simp, .inl ⟨_, _, rfl, run_takeDeferred hK8, ?_⟩⟩
          all_goals exact ⟨_, results_tmp rfl _ _ _, rfl, hb8'.trans hfin⟩
  case stop =>
    rintro D c pre W hD _ h _
    exact h.elim
end Go.Proofs.YteffnlelmcbgmaaDoor
