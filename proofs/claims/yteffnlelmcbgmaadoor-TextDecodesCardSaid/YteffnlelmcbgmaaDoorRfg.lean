/-
  The contract of lacunaref01.Points: a slice of the call's own that holds the pieces. The condition: the bytes take at most 2 to the 24th bytes.
-/
import Derived.Test.YteffnlelmcbgmaaDoorRfd
import Derived.WalkSpells
import Derived.WalkLawsBesides
import Derived.Laws.AppendOwn
set_option linter.unusedVariables false
namespace Go.Proofs.YteffnlelmcbgmaaDoor
open Go.RowKit Go.Shelf

/-- The cells of pieces. -/
def ptCells (l : List (Nat × Int)) : List Value := l.flatMap fun x => [.int .i64 (x.1 : Nat), .int .i32 x.2]
theorem ptCells_len (l : List (Nat × Int)) : (ptCells l).length = l.length * 2 := by
  induction l with
  | nil => rfl
  | cons x l ih => simp only [ptCells, List.flatMap_cons, List.length_append, List.length_cons, List.length_nil] at ih ⊢; omega
theorem ptCells_app (l m : List (Nat × Int)) : ptCells (l ++ m) = ptCells l ++ ptCells m := by simp [ptCells]
/-- A slice of pieces of the call's own, from block B on. -/
def OwnP (B : Nat) (v : Value) (l : List (Nat × Int)) (w : World) : Prop := w.ownsRow B 47 2 v l.length (ptCells l)
theorem OwnP.nil (B : Nat) (w : World) : OwnP B (.slice none 0 0) [] w := World.ownsRow_nil _ _ _ _
theorem OwnP.alloc {B : Nat} {v : Value} {l : List (Nat × Int)} {w : World} (h : OwnP B v l w) (o : Obj) : OwnP B v l (w.alloc o) := World.ownsRow.alloc h o
theorem OwnP.below {B : Nat} {v : Value} {l : List (Nat × Int)} {w w' w0 : World} (h : OwnP B v l w) (hb : Below B w0 w) (hB : B ≤ w.heap.size) (hg : w.grownBy w' v.ownBlock) : Below B w0 w' :=
  hb.grown hg hB (fun k hk => (World.ownsRow.lt h k hk).1)
theorem OwnP.shape {B : Nat} {v : Value} {l : List (Nat × Int)} {w : World} (h : OwnP B v l w) : ∃ a c, v = .slice a l.length c ∧ (0 < l.length → ∃ g, a = some ⟨g, 0, none⟩ ∧ B ≤ g ∧ g < w.heap.size ∧ ∀ j u, (ptCells l)[j]? = some u → w.cell? ⟨g, j, none⟩ = some u) := by
  rcases h.2 with ⟨rfl, hn⟩ | ⟨g, cap, cur, rfl, hB, hg, _, _, _, ht⟩
  · exact ⟨none, 0, by rw [hn], fun h => absurd h (by omega)⟩
  · refine ⟨_, _, rfl, fun _ => ⟨g, rfl, hB, (Array.getElem?_eq_some_iff.1 hg).1, fun j u hj => ?_⟩⟩
    rw [cell_of_heap' hg, ← Array.getElem?_toList]
    rw [← ht, List.getElem?_take] at hj
    split at hj
    · exact hj
    · cases hj
theorem ownsRow_kept {w w' : World} {B sz n : Nat} {e : TypeId} {v : Value} {xs : List Value} (h : w.ownsRow B e sz v n xs) (hb : Below w.heap.size w w') : w'.ownsRow B e sz v n xs := by
  refine ⟨h.1, ?_⟩
  rcases h.2 with h | ⟨g, cap, cur, h1, h2, h3, h4⟩
  · exact .inl h
  · exact .inr ⟨g, cap, cur, h1, h2, (hb.block g (Array.getElem?_eq_some_iff.1 h3).1).trans h3, h4⟩
theorem OwnP.kept {B : Nat} {v : Value} {l : List (Nat × Int)} {w w' : World} (h : OwnP B v l w) (hb : Below w.heap.size w w') : OwnP B v l w' := ownsRow_kept h hb
theorem new_pt (w : World) (x : Nat × Int) : ∀ j u, (ptCells [x])[j]? = some u → (w.alloc (.cells #[.int .i64 (x.1 : Nat), .int .i32 x.2] 47)).cell? ((⟨w.heap.size, 0, none⟩ : Addr).add j) = some u := by
  intro j u h
  have hb := heap_alloc_new w (.cells #[.int .i64 (x.1 : Nat), .int .i32 x.2] 47)
  have hadd : (⟨w.heap.size, 0, none⟩ : Addr).add j = ⟨w.heap.size, j, none⟩ := by unfold Addr.add; split <;> simp_all
  rw [hadd, cell_of_heap' hb]
  simpa [ptCells] using h
theorem infoPoint : (Tryd.prog.info? 47).map (fun i => (i.zero, i.size, i.bytes)) = some (some (.agg #[.int .i64 0, .int .i32 0]), 2, 16) := by kernel_rfl
theorem app_pts {ops : Array Oper} {rest : List Oper} {o : Oper} {a : Act} {w : World} {Q : Exit → Act → World → Prop} (hgd : o.guard = none) (s x : Operand)
    (ho : o.op = .call { callee := .builtin .append, args := #[s, x], argTypes := #[41, 41] })
    (B : Nat) (v : Value) (l : List (Nat × Int)) (hs : a.eval s = v) (hown : OwnP B v l w)
    (ad : Addr) (m c : Nat) (news : List (Nat × Int)) (hx : a.eval x = .slice (some ad) m c) (hl : news.length = m) (hnews : ∀ j u, (ptCells news)[j]? = some u → w.cell? (ad.add j) = some u)
    (hlen : l.length + m ≤ 4294967296) (hB : B ≤ w.heap.size)
    (h : ∀ v' w', OwnP B v' (l ++ news) w' → w.grownBy w' v.ownBlock → wpList Tryd.prog ops Q rest (a.put o.dst v') w') : wpList Tryd.prog ops Q (o :: rest) a w := by
  obtain ⟨i0, hi, hz0, hz1, hz2⟩ := info_parts infoPoint
  refine wpList_append_own w hgd s x 41 ho B 47 i0 _ 2 16 Tryd.underlying41 hi hz0 hz1 hz2 rfl (by decide) v l.length (ptCells l) hs hown ad m c (ptCells news) hx (by rw [ptCells_len]; omega) hnews ?_ (by unfold maxLen; omega) (by omega) hB ?_
  · intro u hu
    obtain ⟨y, _, hy⟩ := List.mem_flatMap.1 hu
    simp only [List.mem_cons, List.mem_nil_iff, or_false] at hy
    rcases hy with rfl | rfl <;> rfl
  · intro v' w' h1 h2 _
    refine h v' w' ?_ h2
    unfold OwnP
    rw [ptCells_app, List.length_append, hl]
    exact h1

set_option maxRecDepth 100000 in
set_option maxHeartbeats 2000000 in
theorem pointsR_calls (s : ByteArray) (hs : s.size ≤ 16777216) (w : World) :
    Calls Tryd.prog 30 #[.string s] w fun e w' => ∃ v, e = .returned v ∧ OwnP w.heap.size v (pts s.data.toList) w' ∧ Below w.heap.size w w' := by
  go_enter Tryd.func30, Tryd.ntmps30
  go_wp2
  go_loopw [3, 4] (fun v i wr => ∃ (at_ : Nat) (pre : List (Nat × Int)), i = .int .i64 at_ ∧ at_ ≤ s.size ∧ OwnP w.heap.size v pre wr ∧ Below w.heap.size w wr ∧ pre.length ≤ at_ ∧ Hid (pre ++ ptsF s.data.toList.length at_ (s.data.toList.drop at_) = pts s.data.toList)) (fun _ i _ => s.size - (intOf i).toNat)
  case atStart => exact ⟨0, [], rfl, Nat.zero_le _, OwnP.nil _ _, Below.refl _ _, by simp, by simp [Hid, pts]⟩
  case round =>
    obtain ⟨at_, pre, rfl, hat, hP, hb, hpl, HG⟩ := hrel
    have hsz := hb.size
    by_cases hlt : at_ < s.size
    · have hne : s.data.toList.drop at_ ≠ [] := by intro e; have := congrArg List.length e; simp at this; omega
      have hr := pc_range _ hne
      have hrn := rn_range (s.data.toList.drop at_)
      have HS := Lib.hid (pts_step s.data.toList at_ (by simpa using hlt))
      have hle : at_ + (pc (s.data.toList.drop at_)).1 ≤ s.size := by have := hr.2.1; simp at this; omega
      have hr1 := hr.1
      have HNX : Hid ((pre ++ [(at_, rn (s.data.toList.drop at_))]) ++ ptsF s.data.toList.length (at_ + (pc (s.data.toList.drop at_)).1) (s.data.toList.drop (at_ + (pc (s.data.toList.drop at_)).1)) = pts s.data.toList) := by
        unfold Hid; rw [← HG.out, HS.out, List.append_assoc]; rfl
      have HPC : Hid (∀ w, Calls Tryd.prog 42 #[.string s, .int .i64 at_] w fun e w' =>
          e = .returned (.tuple #[.int .i64 (pc (s.data.toList.drop at_)).1, .int .i32 (rn (s.data.toList.drop at_)), .bool (pc (s.data.toList.drop at_)).2]) ∧ Below w.heap.size w w') := fun w => pieceR_calls s at_ hlt (by omega) w
      clear hne hr HS
      generalize rn (s.data.toList.drop at_) = r at *
      generalize (pc (s.data.toList.drop at_)).1 = q at *
      generalize (pc (s.data.toList.drop at_)).2 = ok at *
      go_wp2_with fail
      refine (HPC.out _).mono ?_
      rintro e w1 ⟨rfl, hb1⟩
      have hP1 := hP.kept hb1
      have hb1' := hb.trans (hb1.mono hsz)
      have hsz1 := hb1'.size
      have HN := new_pt w1 (at_, r)
      clear hP hb hb1 HPC
      go_wp2_with (at_builtin; refine app_pts rfl _ _ rfl w.heap.size _ _ rfl (hP1.alloc _) ⟨w1.heap.size, 0, none⟩ 1 1 [(at_, r)] rfl rfl HN (by omega) (by simp; omega) ?_; intro v' w2 hP2 hg2)
      have hb2 := (hP1.alloc (.cells #[.int .i64 (at_ : Nat), .int .i32 r] 47)).below (hb1'.alloc hsz1 _) (by simp; omega) hg2
      go_wp2
      refine ⟨⟨at_ + q, _, by go_num, hle, hP2, hb2, by simp; omega, HNX.out⟩, by simp [intOf]; omega⟩
    · obtain rfl : at_ = s.size := by omega
      go_wp2
      go_ret
      refine ⟨_, rfl, ?_, hb⟩
      have : pre = pts s.data.toList := by rw [← HG.out, List.drop_of_length_le (by simp), ptsF_nil, List.append_nil]
      rw [← this]; exact hP
end Go.Proofs.YteffnlelmcbgmaaDoor
