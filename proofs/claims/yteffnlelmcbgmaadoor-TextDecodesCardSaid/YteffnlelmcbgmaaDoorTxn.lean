/-
  Contracts of text.Normal and text.Input. The condition: the bytes take at most 2 to the 28th bytes; the tables read as they were laid; MaxLen holds some number.
-/
import Derived.Test.YteffnlelmcbgmaaDoorTxe
import Derived.Test.YteffnlelmcbgmaaDoorNrm
import Derived.Test.YteffnlelmcbgmaaDoorRet
set_option linter.unusedVariables false
namespace Go.Proofs.YteffnlelmcbgmaaDoor
open Go.RowKit Go.Shelf

/-- The library's variable MaxLen holds some number. -/
def Sh (w : World) : Prop := ∃ m, w.cell? ⟨2, 0, none⟩ = some (.int .i64 m)
theorem Sh.lt {w : World} (h : Sh w) : 2 < w.heap.size := by
  obtain ⟨m, hm⟩ := h
  rcases Nat.lt_or_ge 2 w.heap.size with h | h
  · exact h
  · simp [World.cell?, Array.getElem?_eq_none h] at hm
theorem Sh.below {w w' : World} (h : Sh w) (hb : Below w.heap.size w w') : Sh w' := by
  obtain ⟨m, hm⟩ := h
  exact ⟨m, (hb.cell (p := ⟨2, 0, none⟩) (Sh.lt ⟨m, hm⟩)).trans hm⟩
theorem sh_of_shaped {w : World} (h : w.ShapedOpen Tryd.prog) : Sh w := Lb.Mn143.s1_3 w h

theorem replace_calls (s old : ByteArray) (hs : s.size ≤ 268435456) (h1 : 1 ≤ old.size) (w : World) (hsh : Sh w) :
    Calls Tryd.prog 40 #[.string s, .string old, .string ⟨#[10]⟩] w fun e w' => e = .returned (.string ⟨(Lib.replaceAll s.data.toList old.data.toList [10]).toArray⟩) ∧ Below w.heap.size w w' := by
  obtain ⟨m, hm⟩ := hsh
  have hc := Lib.countB_mul_le old h1 s.size s (Nat.le_refl _)
  refine Any.strings_ReplaceAll Lb.n155 Lb.extra s old ⟨#[10]⟩ m w (by omega) hm h1 ?_
  have : Lib.countB s old ≤ s.size := Nat.le_trans (Nat.le_mul_of_pos_right _ h1) hc
  show s.size + Lib.countB s old * 1 ≤ _
  omega

set_option maxRecDepth 100000 in
theorem normal_calls (s : ByteArray) (hs : s.size ≤ 268435456) (w : World) (hsh : Sh w) :
    Calls Tryd.prog 17 #[.string s] w fun e w' => e = .returned (.string ⟨(nrm s.data.toList).toArray⟩) ∧ Below w.heap.size w w' := by
  have H1 : Hid (∀ w, Sh w → Calls Tryd.prog 40 #[.string s, .string ⟨#[13, 10]⟩, .string ⟨#[10]⟩] w fun e w' => ∃ t : ByteArray, e = .returned (.string t) ∧ Hid (t.data.toList = Lib.replaceAll s.data.toList [13, 10] [10]) ∧ Below w.heap.size w w') :=
    fun w h => (replace_calls s ⟨#[13, 10]⟩ hs (by decide) w h).mono fun e w' h => ⟨_, h.1, rfl, h.2⟩
  have HS := Lib.hid hsh
  clear hsh
  go_enter Tryd.func17, Tryd.ntmps17
  go_wp2_with fail
  refine (H1.out _ HS.out).mono ?_
  rintro e w1 ⟨t, rfl, ht, hb1⟩
  have htl : t.size ≤ s.size := by
    have h1 := crlf_replace _ s.data.toList (Nat.le_refl _)
    have h2 := crlf_le _ s.data.toList (Nat.le_refl _)
    rw [← h1, ← ht.out] at h2
    simpa using h2
  go_wp2_with fail
  refine (replace_calls t ⟨#[13]⟩ (by omega) (by decide) _ (HS.out.below hb1)).mono ?_
  rintro e w2 ⟨rfl, hb2⟩
  go_wp2
  go_ret
  refine ⟨ret_str ?_, hb1.trans (hb2.mono hb1.size)⟩
  rw [ht.out]
  exact nrm_replace _

/-- Bytes as a text whose lines end with a byte 10. -/
def inp (l : List UInt8) : List UInt8 := nrm (decd l)
theorem decd_le (l : List UInt8) : (decd l).length ≤ 4 * l.length := by
  have h1 := encs_le (pts l)
  have h2 := pts_le l
  unfold decd; omega

set_option maxRecDepth 100000 in
theorem input_calls (s : ByteArray) (hs : s.size ≤ 16777216) (w : World) (hsh : Sh w) (hT : Tabs w) :
    Calls Tryd.prog 12 #[.string s] w fun e w' => e = .returned (.string ⟨(inp s.data.toList).toArray⟩) ∧ Below w.heap.size w w' := by
  have H1 : Hid (∀ w, Tabs w → Calls Tryd.prog 15 #[.string s] w fun e w' => ∃ t : ByteArray, e = .returned (.string t) ∧ Hid (t.data.toList = decd s.data.toList) ∧ Below w.heap.size w w') :=
    fun w h => (decodeT_calls s w (by omega) h).mono fun e w' h => ⟨_, h.1, rfl, h.2⟩
  have HS := Lib.hid hsh
  have HT := Lib.hid hT
  clear hsh hT
  go_enter Tryd.func12, Tryd.ntmps12
  go_wp2_with fail
  refine (H1.out _ HT.out).mono ?_
  rintro e w1 ⟨t, rfl, ht, hb1⟩
  have htl : t.size ≤ 4 * s.size := by
    have h2 := decd_le s.data.toList
    rw [← ht.out] at h2
    simpa using h2
  go_wp2_with fail
  refine (normal_calls t (by omega) _ (HS.out.below hb1)).mono ?_
  rintro e w2 ⟨rfl, hb2⟩
  go_wp2
  go_ret
  refine ⟨ret_str ?_, hb1.trans (hb2.mono hb1.size)⟩
  rw [ht.out]; rfl
end Go.Proofs.YteffnlelmcbgmaaDoor
