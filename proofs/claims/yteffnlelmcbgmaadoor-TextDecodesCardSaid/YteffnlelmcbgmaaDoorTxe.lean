/-
  The contract of text.Decode. The condition: the bytes take at most 2 to the 40th bytes; the two tables of unicode/utf8 read as they were laid.
-/
import Derived.Test.YteffnlelmcbgmaaDoorTxd
set_option linter.unusedVariables false
namespace Go.Proofs.YteffnlelmcbgmaaDoor
open Go.RowKit Go.Shelf

attribute [local go_sem] Oper.semAt_some

set_option maxRecDepth 100000 in
set_option maxHeartbeats 2000000 in
theorem decodeT_calls (s : ByteArray) (w : World) (hs : s.size ≤ 1099511627776) (hT : Tabs w) :
    Calls Tryd.prog 15 #[.string s] w fun e w' => e = .returned (.string ⟨(decd s.data.toList).toArray⟩) ∧ Below w.heap.size w w' := by
  refine (callsIn_wide (n := 5)).1 ?_
  refine callsIn_of_wp_marks Tryd.func15 rfl trivial ?_ rfl
  simp only [Tryd.ntmps15, List.size_toArray, List.length_cons, List.length_nil, Nat.reduceAdd, Nat.reduceSub, Array.replicate_succ, Array.replicate_zero, List.push_toArray, List.append_toArray, List.nil_append, List.cons_append]
  gi_wp2_with (refine ⟨trivial, ?_⟩; gi_at_call 31; refine (callsIn_wide.2 (pointsF_calls s _)).mono ?_; rintro e w' ⟨rfl, rfl⟩)
  have hT2 : Tabs ((w.alloc (.cells #[.pointer none, .slice none 0 0] 54)).alloc (.cells #[.string s] 9)) := hT.below (((Below.refl _ w).alloc (Nat.le_refl _) _).alloc (by simp) _)
  have hbox : ((w.alloc (.cells #[.pointer none, .slice none 0 0] 54)).alloc (.cells #[.string s] 9)).heap[w.heap.size + 1]? = some (.cells #[.string s] 9 (0, 0)) := by
    have := heap_alloc_new (w.alloc (.cells #[.pointer none, .slice none 0 0] 54)) (.cells #[.string s] 9)
    rwa [World.size_alloc] at this
  have hpl := pts_le s.data.toList
  rw [show s.data.toList.length = s.size by simp] at hpl
  refine wpIn_rangeFunc_ownF rfl (by omega) (gf := 43) (lb := #[.pointer (some ⟨w.heap.size + 1, 0, none⟩)]) rfl trivial (enters_of Tryd.func43 (by kernel_rfl) rfl)
    (points_stops _ (by omega) (w.heap.size + 1) s (by omega) _ hbox hT2) kp3_t
    (fun W l o o' hl hW _ _ b hb => World.putObj_heap_other (by
      have := hT.lt
      simp at hl
      rcases hb with rfl | rfl | rfl <;> omega)) (Below.refl _ _) (fun _ => rfl)
    (fun pre W => BdF w.heap.size w.heap.size (encs pre) W ∧ W.heap[w.heap.size + 1]? = some (.cells #[.string s] 9 (0, 0)) ∧ Below w.heap.size w W)
    (fun _ _ _ => False)
    (OwnFrom.and (Own.from (bdF_own _ _ _) _) (OwnFrom.and (Own.from (block_own _ _ _ _) _) (ownFrom_below (Nat.le_refl _) (by simp; omega))))
    (fun _ _ _ _ _ hs _ _ => hs)
    ⟨(BdF.fresh w).alloc _, hbox, ((Below.refl _ w).alloc (Nat.le_refl _) _).alloc (by simp) _⟩
    (fun x => { tmps := #[.string s, undef, .string ⟨#[]⟩, .pointer (some ⟨w.heap.size, 0, none⟩), undef, .int .i32 (clp x.2), .string s, .func (.func 43) #[] #[.pointer (some ⟨w.heap.size + 1, 0, none⟩)], .int .i64 (x.1 : Nat), .int .i32 (clp x.2), undef, undef, undef], defers := [] }) ?assign ?body ?done ?stop
  case assign =>
    intro l x W K hK
    dsimp only [ptV]
    gi_wp2
    exact hK
  case body =>
    rintro l pre x W ⟨hB, hbx, hbw⟩ hlen
    have hcl := clp_range x.2
    have hle := encs_le pre
    have hsz := hbw.size
    gi_wp2_with fail
    refine ⟨trivial, ?_⟩
    refine (CallsIn.inRound l (callsIn_wide.2 (writeRune_calls w.heap.size w.heap.size _ (clp x.2) (by omega) (by omega) _ hB (by omega) hsz))).mono ?_
    rintro e W2 ⟨⟨m, rfl⟩, hB2, hb2, hk2⟩
    have hsz2 := hb2.size
    gi_wp2
    exact ⟨keeps_of hB hk2 hsz2, kp3_kept hbx (by omega) hk2 hb2 hT.lt.1 hT.lt.2, by rw [encs_snoc]; exact hB2, (hk2 _ _ hbx (by simp) (by intro c fz e; cases e)), hbw.trans hb2⟩
  case done =>
    rintro D ys W hD rfl ⟨hB, hbx, hbw⟩ hK
    have hsz := hbw.size
    gi_wp2_with fail
    refine ⟨trivial, ?_⟩
    refine (callsIn_wide.2 (stringF_calls w.heap.size w.heap.size _ _ hB hsz)).mono ?_
    rintro e W2 ⟨rfl, hb2, hk2⟩
    have hD' : w.heap.size + 2 ≤ D := by simp at hD; omega
    have hK2 : W2.heap[D]? = some (.deferred (some [])) := hk2 _ _ hK (by simp; omega) (by intro c fz e; cases e)
    clear hK hD hT2 hbox
    gi_wp2
    refine ⟨by simp, .inl ⟨_, _, rfl, run_takeDeferred hK2, ?_⟩⟩
    refine ⟨_, results_tmp rfl _ _ _, rfl, (hbw.trans hb2).trans (belowK_b (w := w) (Nat.le_refl _) W2 D _ _ (by omega) hK2 rfl rfl)⟩
  case stop =>
    rintro D c pre W hD _ h _
    exact h.elim
end Go.Proofs.YteffnlelmcbgmaaDoor
