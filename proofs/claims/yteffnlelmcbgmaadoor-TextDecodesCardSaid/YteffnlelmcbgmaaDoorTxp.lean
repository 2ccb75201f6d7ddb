/-
  The contract of the iterator that text.Points hands back: it goes through all pieces, or through the first of them, for every loop body that keeps the iterator's own block and the two tables. The condition: the bytes take at most 2 to the 60th bytes.
-/
import Derived.Test.YteffnlelmcbgmaaDoorLib
import Derived.Test.YteffnlelmcbgmaaDoorTxb
import Derived.RangeFuncNested
import Derived.RangeFuncBound
import Derived.RangeFuncCalls
import Derived.RangeFuncLeaves
import Derived.Shelf.Abstract
import Derived.Shelf.RegionOpen
import Derived.OwnWalkIn
import Derived.TacticsInMore
import Derived.LoopNIn
import Derived.LoopIn
set_option linter.unusedVariables false
namespace Go.Proofs.YteffnlelmcbgmaaDoor
open Go.RowKit Go.Shelf

attribute [local go_sem] Oper.semAt_some

/-- The code point of the piece that bytes begin with. -/
def rn (l : List UInt8) : Int := if (pc l).2 then ((Lib.decodeGo ⟨l.toArray⟩).1 : Int) else 65533
/-- The pieces of bytes: where each begins, its code point. -/
def ptsF : Nat → Nat → List UInt8 → List (Nat × Int)
  | 0, _, _ => []
  | f + 1, at_, l => if l = [] then [] else (at_, rn l) :: ptsF f (at_ + (pc l).1) (l.drop (pc l).1)
def pts (l : List UInt8) : List (Nat × Int) := ptsF l.length 0 l

theorem ptsF_nil (f at_ : Nat) : ptsF f at_ [] = [] := by cases f <;> rfl
theorem ptsF_fuel (f g at_ : Nat) (l : List UInt8) (hf : l.length ≤ f) (hg : l.length ≤ g) : ptsF f at_ l = ptsF g at_ l := by
  induction f generalizing g at_ l with
  | zero =>
    have : l = [] := List.length_eq_zero_iff.1 (by omega)
    subst this; rw [ptsF_nil, ptsF_nil]
  | succ f ih =>
    by_cases hl : l = []
    · subst hl; rw [ptsF_nil, ptsF_nil]
    · have := pc_range l hl
      match g, hg with
      | 0, hg => exact absurd (List.length_eq_zero_iff.1 (by omega)) hl
      | g + 1, hg =>
        rw [ptsF, ptsF, if_neg hl, if_neg hl]
        rw [ih g _ _ (by simp; omega) (by simp; omega)]
theorem pts_step (s : List UInt8) (at_ : Nat) (h : at_ < s.length) : ptsF s.length at_ (s.drop at_) = (at_, rn (s.drop at_)) :: ptsF s.length (at_ + (pc (s.drop at_)).1) (s.drop (at_ + (pc (s.drop at_)).1)) := by
  have hne : s.drop at_ ≠ [] := by intro e; have := congrArg List.length e; simp at this; omega
  obtain ⟨f, hf⟩ : ∃ f, s.length = f + 1 := ⟨s.length - 1, by omega⟩
  have hr := pc_range _ hne
  conv => lhs; rw [hf, ptsF, if_neg hne]
  rw [List.drop_drop, ptsF_fuel f s.length _ _ (by simp; simp at hr; omega) (by simp)]

/-- A code point is an int32. -/
def clp (r : Int) : Int := if 0 ≤ r ∧ r ≤ 2147483647 then r else 65533
theorem clp_range (r : Int) : 0 ≤ clp r ∧ clp r ≤ 2147483647 := by unfold clp; split <;> omega
theorem rn_range (l : List UInt8) : 0 ≤ rn l ∧ rn l ≤ 2147483647 := by
  unfold rn
  split
  · unfold Lib.decodeGo
    split
    · omega
    · have := decode_le ⟨l.toArray⟩ 0
      omega
  · omega
theorem clp_rn (l : List UInt8) : clp (rn l) = rn l := by unfold clp; rw [if_pos (rn_range l)]

/-- What the iterator needs behind a round: its own block and the two tables stand. -/
def Kp3 (Bs : Nat) (W W' : World) : Prop := ∀ b, (b = Bs ∨ b = 0 ∨ b = 1) → W'.heap[b]? = W.heap[b]?
theorem kp3_t {Bs : Nat} {A B C : World} (h : Kp3 Bs A B) (k : Kp3 Bs B C) : Kp3 Bs A C := fun b hb => (k b hb).trans (h b hb)
theorem kp3_below {Bs n0 : Nat} {A B : World} (h : Below n0 A B) (h1 : Bs < n0) (h2 : 0 < n0) (h3 : 1 < n0) : Kp3 Bs A B := by
  intro b hb
  rcases hb with rfl | rfl | rfl
  · exact h.block _ h1
  · exact h.block _ h2
  · exact h.block _ h3
/-- The two tables read as they were laid. -/
def Tabs (w : World) : Prop := Lib.Utf8Tabs 0 1 w
theorem Tabs.kept {w w' : World} (h : Tabs w) (h1 : w'.heap[(0 : Nat)]? = w.heap[(0 : Nat)]?) (h2 : w'.heap[(1 : Nat)]? = w.heap[(1 : Nat)]?) : Tabs w' := by
  refine ⟨fun c hc => ?_, fun i hi => ⟨?_, ?_⟩⟩
  · rw [World.cell?_of_block (w := w) h1]; exact h.1 c hc
  · rw [World.cell?_of_block (w := w) h2]; exact (h.2 i hi).1
  · rw [World.cell?_of_block (w := w) h2]; exact (h.2 i hi).2
theorem Tabs.lt {w : World} (h : Tabs w) : 0 < w.heap.size ∧ 1 < w.heap.size := by
  have h1 := h.1 0 (by omega)
  have h2 := (h.2 0 (by omega)).1
  constructor
  · rcases Nat.lt_or_ge 0 w.heap.size with h | h
    · exact h
    · simp [World.cell?, Array.getElem?_eq_none h] at h1
  · rcases Nat.lt_or_ge 1 w.heap.size with h | h
    · exact h
    · simp [World.cell?, Array.getElem?_eq_none h] at h2
theorem Tabs.below {w w' : World} (h : Tabs w) (hb : Below w.heap.size w w') : Tabs w' := h.kept (hb.block _ h.lt.1) (hb.block _ h.lt.2)

theorem decodeRune_calls (s : ByteArray) (w : World) (hT : Tabs w) :
    Calls Tryd.prog 45 #[.string s] w fun e w' => e = .returned (.tuple #[.int .i32 (Lib.decodeGo s).1, .int .i64 (Lib.decodeGo s).2]) ∧ Below w.heap.size w w' :=
  Any.utf8_DecodeRuneInString Lb.n197 s w hT

theorem piece_at (s : ByteArray) (k : Nat) (w : World) (h : k < s.size) (hs : s.size ≤ 1152921504606846976) :
    Calls Tryd.prog 44 #[.string (s.extract k s.size)] w fun e w' => e = .returned (.tuple #[.int .i64 (pc (s.data.toList.drop k)).1, .bool (pc (s.data.toList.drop k)).2]) ∧ Below w.heap.size w w' := by
  have := piece_calls (s.extract k s.size) w (by simp; omega) (by simp; omega)
  rw [Lib.extract_to_end] at this
  exact this
theorem rune_at (s : ByteArray) (k : Nat) (w : World) (hT : Tabs w) (hok : (pc (s.data.toList.drop k)).2 = true) :
    Calls Tryd.prog 45 #[.string (s.extract k s.size)] w fun e w' => (∃ m : Int, e = .returned (.tuple #[.int .i32 (rn (s.data.toList.drop k)), .int .i64 m])) ∧ Below w.heap.size w w' := by
  refine (decodeRune_calls (s.extract k s.size) w hT).mono ?_
  rintro e w' ⟨rfl, hb⟩
  refine ⟨⟨((Lib.decodeGo (s.extract k s.size)).2 : Int), ?_⟩, hb⟩
  have e1 : (⟨(s.data.toList.drop k).toArray⟩ : ByteArray) = s.extract k s.size := by rw [← Lib.extract_to_end, Lib.mk_data]
  unfold rn
  rw [if_pos hok, e1]

theorem grown_of_below {A B : World} (h : Below A.heap.size A B) : A.grownBy B none := ⟨h.os, h.tape, h.output, h.size, fun k hk _ => h.block k hk⟩

set_option maxRecDepth 100000 in
set_option maxHeartbeats 2000000 in
theorem points1_in (n : Nat) (hn : 1 ≤ n) (l Bs : Nat) (s : ByteArray) (hs : s.size ≤ 1152921504606846976) (J Jx : List (Nat × Int) → World → Prop) (W : World) (hJa : AbidesFrom W.heap.size J)
    (hY : ∀ pre x W1, J pre W1 → pre.length < (pts s.data.toList).length → YieldAt Fence.wide (n - 1) Tryd.prog l #[.int .i64 (x.1 : Nat), .int .i32 (clp x.2)] W1 fun e W' =>
      (e = .returned (.bool true) ∧ J (pre ++ [x]) W' ∧ Kp3 Bs W1 W') ∨ (e = .returned (.bool false) ∧ Jx (pre ++ [x]) W'))
    (hBs : W.heap[Bs]? = some (.cells #[.string s] 9 (0, 0))) (hT : Tabs W) (h0 : J [] W) :
    CallsIn Fence.wide n Tryd.prog 43 #[.func (.yield l) #[] #[], .pointer (some ⟨Bs, 0, none⟩)] W fun e W' => (∃ v, e = .returned v) ∧
      ((∃ ys, ys = pts s.data.toList ∧ J ys W') ∨ (∃ pre, pre <+: pts s.data.toList ∧ Jx pre W')) := by
  refine callsIn_of_wp Tryd.func43 rfl trivial ?_ rfl
  simp only [Tryd.ntmps43, List.size_toArray, List.length_cons, List.length_nil, Nat.reduceAdd, Nat.reduceSub, Array.replicate_succ, Array.replicate_zero, List.push_toArray, List.append_toArray, List.nil_append, List.cons_append]
  gi_wp2
  gi_loopw [3] (fun i wr => ∃ (at_ : Nat) (pre : List (Nat × Int)), i = .int .i64 at_ ∧ at_ ≤ s.size ∧ J pre wr ∧ wr.heap[Bs]? = some (.cells #[.string s] 9 (0, 0)) ∧ Tabs wr ∧ Hid (pre ++ ptsF s.data.toList.length at_ (s.data.toList.drop at_) = pts s.data.toList)) (fun i _ => s.size - (intOf i).toNat)
  case atStart => exact ⟨0, [], rfl, Nat.zero_le _, h0, hBs, hT, by simp [Hid, pts]⟩
  case round =>
    obtain ⟨at_, pre, rfl, hat, hJ, hbs, hT1, HG⟩ := hrel
    have hc0 : wr.cell? ⟨Bs, 0, none⟩ = some (.string s) := by rw [cell_of_heap' hbs]; rfl
    have hBlt : Bs < wr.heap.size := (Array.getElem?_eq_some_iff.1 hbs).1
    by_cases hlt : at_ < s.size
    · have hne : s.data.toList.drop at_ ≠ [] := by intro e; have := congrArg List.length e; simp at this; omega
      have hr := pc_range _ hne
      have HS := Lib.hid (pts_step s.data.toList at_ (by simpa using hlt))
      have hle : at_ + (pc (s.data.toList.drop at_)).1 ≤ s.size := by have := hr.2.1; simp at this; omega
      have hr1 := hr.1
      have hlen : Hid (pre.length < (pts s.data.toList).length) := by unfold Hid; rw [← HG.out, HS.out]; simp
      have HNX : Hid ((pre ++ [(at_, rn (s.data.toList.drop at_))]) ++ ptsF s.data.toList.length (at_ + (pc (s.data.toList.drop at_)).1) (s.data.toList.drop (at_ + (pc (s.data.toList.drop at_)).1)) = pts s.data.toList) := by
        unfold Hid; rw [← HG.out, HS.out, List.append_assoc]; rfl
      clear hne hr
      obtain ⟨q, hq⟩ : ∃ q, (pc (s.data.toList.drop at_)).1 = q := ⟨_, rfl⟩
      rw [hq] at HNX hle hr1
      gi_wp2_with fail
      refine ⟨trivial, ?_⟩
      refine (callsIn_wide.2 (piece_at s at_ _ hlt hs)).mono ?_
      rw [hq]
      clear HS
      have HQ := Lib.hid hq
      clear hq
      by_cases hok : (pc (s.data.toList.drop at_)).2 = true
      · rw [hok]
        have HO := Lib.hid hok
        clear hok
        rintro e w2 ⟨rfl, hb2⟩
        have hJ2 := hJa _ _ _ none hJ (grown_of_below hb2) (fun r e => by cases e)
        have hT2 := hT1.below hb2
        have hbs2 := (hb2.block Bs hBlt).trans hbs
        have hc2 : w2.cell? ⟨Bs, 0, none⟩ = some (.string s) := by rw [cell_of_heap' hbs2]; rfl
        have hBlt2 : Bs < w2.heap.size := (Array.getElem?_eq_some_iff.1 hbs2).1
        clear hb2 hJ hT1 hbs hc0
        gi_wp2_with fail
        refine ⟨trivial, ?_⟩
        refine (callsIn_wide.2 (rune_at s at_ _ hT2 HO.out)).mono ?_
        rintro e w3 ⟨⟨m, rfl⟩, hb3⟩
        have hJ3 := hJa _ _ _ none hJ2 (grown_of_below hb3) (fun r e => by cases e)
        have hT3 := hT2.below hb3
        have hbs3 := (hb3.block Bs hBlt2).trans hbs2
        clear hb3 hJ2 hT2 hbs2 hc2
        obtain ⟨fn, tmps, assign, body, hy, hR⟩ := hY _ (at_, rn (s.data.toList.drop at_)) _ hJ3 hlen.out
        dsimp only at hy
        rw [clp_rn] at hy
        gi_wp2
        refine hR.mono ?_
        rintro e w4 (⟨rfl, hJ4, hk4⟩ | ⟨rfl, hJx4⟩)
        · gi_wp2
          go_roundw
          case rel => exact ⟨at_ + q, _, by go_num, hle, hJ4, (hk4 Bs (.inl rfl)).trans hbs3, hT3.kept (hk4 _ (.inr (.inl rfl))) (hk4 _ (.inr (.inr rfl))), HNX⟩
          case measure => simp [intOf]; omega
        · gi_wp2
          refine bodyPost_ret (results_none rfl _ _ _) rfl ?_
          exact ⟨⟨_, rfl⟩, .inr ⟨_, ⟨_, HNX.out⟩, hJx4⟩⟩
      · have hok' : (pc (s.data.toList.drop at_)).2 = false := by simpa using hok
        rw [hok']
        have HR : Hid (rn (s.data.toList.drop at_) = 65533) := by unfold Hid rn; rw [if_neg hok]
        rw [HR.out] at HNX
        clear hok hok'
        rintro e w3 ⟨rfl, hb3⟩
        have hJ3 := hJa _ _ _ none hJ (grown_of_below hb3) (fun r e => by cases e)
        have hT3 := hT1.below hb3
        have hbs3 := (hb3.block Bs hBlt).trans hbs
        clear hb3 hJ hT1 hbs hc0
        obtain ⟨fn, tmps, assign, body, hy, hR⟩ := hY _ (at_, 65533) _ hJ3 hlen.out
        dsimp only at hy
        rw [show clp 65533 = 65533 from rfl] at hy
        gi_wp2
        refine hR.mono ?_
        rintro e w4 (⟨rfl, hJ4, hk4⟩ | ⟨rfl, hJx4⟩)
        · gi_wp2
          go_roundw
          case rel => exact ⟨at_ + q, _, by go_num, hle, hJ4, (hk4 Bs (.inl rfl)).trans hbs3, hT3.kept (hk4 _ (.inr (.inl rfl))) (hk4 _ (.inr (.inr rfl))), HNX⟩
          case measure => simp [intOf]; omega
        · gi_wp2
          refine bodyPost_ret (results_none rfl _ _ _) rfl ?_
          exact ⟨⟨_, rfl⟩, .inr ⟨_, ⟨_, HNX.out⟩, hJx4⟩⟩
    · have hend : Hid (pre = pts s.data.toList) := by
        unfold Hid; rw [← HG.out, List.drop_of_length_le (by simp; omega), ptsF_nil, List.append_nil]
      gi_wp2
      go_end0
      exact ⟨⟨_, rfl⟩, .inl ⟨_, hend.out, hJ⟩⟩

/-- A point as the two arguments of yield. -/
def ptV (x : Nat × Int) : Array Value := #[.int .i64 (x.1 : Nat), .int .i32 (clp x.2)]

theorem points_stops (n : Nat) (hn : 1 ≤ n) (Bs : Nat) (s : ByteArray) (hs : s.size ≤ 1152921504606846976) (w : World) (hBs : w.heap[Bs]? = some (.cells #[.string s] 9 (0, 0))) (hT : Tabs w) :
    SeqStopsK Fence.wide n Tryd.prog 43 #[.pointer (some ⟨Bs, 0, none⟩)] ptV (Kp3 Bs) (fun ys => ys = pts s.data.toList) (fun pre => pre <+: pts s.data.toList) (pts s.data.toList).length w := fun l J Jx W hW hJ _ hY h0 =>
  points1_in n hn l Bs s hs J Jx W hJ hY ((hW.block Bs (Array.getElem?_eq_some_iff.1 hBs).1).trans hBs) (hT.below hW) h0

theorem pointsF_calls (s : ByteArray) (w : World) :
    Calls Tryd.prog 31 #[.string s] w fun e w' => e = .returned (.func (.func 43) #[] #[.pointer (some ⟨w.heap.size, 0, none⟩)]) ∧ w' = w.alloc (.cells #[.string s] 9) := by
  go_enter Tryd.func31, Tryd.ntmps31
  go_wp2
  go_ret
  exact ⟨rfl, rfl⟩
end Go.Proofs.YteffnlelmcbgmaaDoor
