/-
  Contracts of lacunaref01.Decode and Input. The condition: the bytes take at most 2 to the 24th bytes.
-/
import Derived.Test.YteffnlelmcbgmaaDoorRby
import Derived.Test.YteffnlelmcbgmaaDoorRno
import Derived.Lib.AppendStr
set_option linter.unusedVariables false
namespace Go.Proofs.YteffnlelmcbgmaaDoor
open Go.RowKit Go.Shelf

theorem app_str {ops : Array Oper} {rest : List Oper} {o : Oper} {a : Act} {w : World} {Q : Exit → Act → World → Prop} (hgd : o.guard = none) (s x : Operand)
    (ho : o.op = .call { callee := .builtin .append, args := #[s, x], argTypes := #[52, 9] })
    (B : Nat) (v : Value) (l : List UInt8) (hs : a.eval s = v) (hown : OwnB B v l w) (news : List UInt8) (hx : a.eval x = .string ⟨news.toArray⟩)
    (hlen : l.length + news.length ≤ 140737488355328) (hB : B ≤ w.heap.size)
    (h : ∀ v' w', OwnB B v' (l ++ news) w' → w.grownBy w' v.ownBlock → wpList Tryd.prog ops Q rest (a.put o.dst v') w') : wpList Tryd.prog ops Q (o :: rest) a w := by
  obtain ⟨i0, hi, hz0, hz1, hz2⟩ := info_parts Lb.extra.infoByte
  refine Lib.wpList_append_own_string w hgd s x 52 9 ho B 5 i0 Tryd.underlying52 Tryd.underlying9 hi hz0 hz1 hz2 v l.length (Lib.byteCells l) hs hown ⟨news.toArray⟩ hx (by show l.length + news.length ≤ _; unfold maxLen; omega) (by show l.length + news.length ≤ _; omega) hB ?_
  intro v' w' h1 h2 _
  refine h v' w' ?_ h2
  unfold OwnB
  rw [Lib.byteCells_append, List.length_append]
  exact h1
theorem encR_snoc (l : List Int) (r : Int) : encR (l ++ [r]) = encR l ++ Lib.encodeRune r := by rw [encR_app]; simp [encR]
theorem encR_le (l : List Int) : (encR l).length ≤ 4 * l.length := by
  induction l with
  | nil => simp [encR]
  | cons r l ih =>
    have := enc_rune_le r
    rw [encR_cons, List.length_append, List.length_cons]
    omega

set_option maxRecDepth 100000 in
set_option maxHeartbeats 2000000 in
theorem decodeR_calls (s : ByteArray) (hs : s.size ≤ 16777216) (w : World) :
    Calls Tryd.prog 32 #[.string s] w fun e w' => e = .returned (.string ⟨(decd s.data.toList).toArray⟩) ∧ Below w.heap.size w w' := by
  go_enter Tryd.func32, Tryd.ntmps32
  go_wp2
  go_loopw [3, 4] (fun v i wr => ∃ (at_ : Nat) (acc : List Int), i = .int .i64 at_ ∧ at_ ≤ s.size ∧ OwnB w.heap.size v (encR acc) wr ∧ Below w.heap.size w wr ∧ acc.length ≤ at_ ∧ Hid (acc ++ rns (s.data.toList.drop at_) = rns s.data.toList)) (fun _ i _ => s.size - (intOf i).toNat)
  case atStart => exact ⟨0, [], rfl, Nat.zero_le _, OwnB.nil _ _, Below.refl _ _, by simp, by simp [Hid]⟩
  case round =>
    obtain ⟨at_, acc, rfl, hat, hB, hb, hal, HG⟩ := hrel
    have hsz := hb.size
    have hel := encR_le acc
    by_cases hlt : at_ < s.size
    · have hne : s.data.toList.drop at_ ≠ [] := by intro e; have := congrArg List.length e; simp at this; omega
      have hr := pc_range _ hne
      have hrn := rn_range (s.data.toList.drop at_)
      have HSC := Lib.hid (rn_sc _ hne)
      have HST := Lib.hid (rns_step _ hne)
      have hle : at_ + (pc (s.data.toList.drop at_)).1 ≤ s.size := by have := hr.2.1; simp at this; omega
      have hr1 := hr.1
      have HPC : Hid (∀ w, Calls Tryd.prog 42 #[.string s, .int .i64 at_] w fun e w' =>
          e = .returned (.tuple #[.int .i64 (pc (s.data.toList.drop at_)).1, .int .i32 (rn (s.data.toList.drop at_)), .bool (pc (s.data.toList.drop at_)).2]) ∧ Below w.heap.size w w') := fun w => pieceR_calls s at_ hlt (by omega) w
      have HD : Hid ((s.data.toList.drop at_).drop (pc (s.data.toList.drop at_)).1 = s.data.toList.drop (at_ + (pc (s.data.toList.drop at_)).1)) := by unfold Hid; rw [List.drop_drop]
      clear hne hr
      generalize rn (s.data.toList.drop at_) = r at *
      generalize (pc (s.data.toList.drop at_)).1 = q at *
      generalize (pc (s.data.toList.drop at_)).2 = ok at *
      go_wp2_with fail
      refine (HPC.out _).mono ?_
      rintro e w1 ⟨rfl, hb1⟩
      have hB1 : OwnB w.heap.size _ (encR acc) w1 := ownsRow_kept hB hb1
      have hb1' := hb.trans (hb1.mono hsz)
      have hsz1 := hb1'.size
      clear hB hb hb1 HPC
      go_wp2_with fail
      refine (bytesR_calls r HSC.out _).mono ?_
      rintro e w2 ⟨rfl, hb2⟩
      have hB2 : OwnB w.heap.size _ (encR acc) w2 := ownsRow_kept hB1 hb2
      have hb2' := hb1'.trans (hb2.mono hsz1)
      have hsz2 := hb2'.size
      have her := (enc_rune_le r).2
      clear hB1 hb1' hb2
      go_wp2_with (at_builtin; refine app_str rfl _ _ rfl w.heap.size _ _ rfl hB2 (Lib.encodeRune r) rfl (by omega) hsz2 ?_; intro v' w3 hB3 hg3)
      have hb3 := hB2.below hb2' hsz2 hg3
      go_wp2
      exact ⟨⟨at_ + q, acc ++ [r], by go_num, hle, by rw [encR_snoc]; exact hB3, hb3, by simp; omega, by unfold Hid; rw [← HG.out, HST.out, HD.out, List.append_assoc]; rfl⟩, by simp [intOf]; omega⟩
    · obtain rfl : at_ = s.size := by omega
      have hconv := hB.text
      go_wp2
      go_ret
      refine ⟨ret_str ?_, hb⟩
      rw [decd_rns, ← HG.out, List.drop_of_length_le (by simp), rns_nil, List.append_nil]

theorem inputR_calls (s : ByteArray) (hs : s.size ≤ 2097152) (w : World) :
    Calls Tryd.prog 19 #[.string s] w fun e w' => e = .returned (.string ⟨(inp s.data.toList).toArray⟩) ∧ Below w.heap.size w w' := by
  have H1 : Hid (∀ w, Calls Tryd.prog 32 #[.string s] w fun e w' => ∃ t : ByteArray, e = .returned (.string t) ∧ Hid (t.data.toList = decd s.data.toList) ∧ t.size ≤ 16777216 ∧ Below w.heap.size w w') :=
    fun w => (decodeR_calls s (by omega) w).mono fun e w' h => ⟨_, h.1, rfl, by
      have := decd_le s.data.toList
      rw [show s.data.toList.length = s.size from Array.length_toList] at this
      rw [ba_len]; omega, h.2⟩
  go_enter Tryd.func19, Tryd.ntmps19
  go_wp2_with fail
  refine (H1.out _).mono ?_
  rintro e w1 ⟨t, rfl, ht, htl, hb1⟩
  go_wp2_with fail
  refine (normalR_calls t htl _).mono ?_
  rintro e w2 ⟨rfl, hb2⟩
  go_wp2
  go_ret
  refine ⟨ret_str ?_, hb1.trans (hb2.mono hb1.size)⟩
  rw [ht.out]; rfl
end Go.Proofs.YteffnlelmcbgmaaDoor
