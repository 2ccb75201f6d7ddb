/-
  Contracts of mark.whole and of mark.declaration's methods word, close, rest, broken. The condition: the text takes at most 2 to the 28th bytes; MaxLen holds some number.
-/
import Derived.Test.YtileclmmobkcaaaDoorMde
set_option linter.unusedVariables false
namespace Go.Proofs.YtileclmmobkcaaaDoor
open Go.RowKit Go.Shelf

theorem Sh.gb {w w' : World} {D : Nat} (h : Sh w) (hg : w.grownBy w' (some D)) (hD : 0 ≠ D) : Sh w' := by
  obtain ⟨m, hm⟩ := h
  exact ⟨m, hg.cell hm (by simpa using hD)⟩

theorem whole_calls (s : ByteArray) (hs : s.size ≤ 268435456) (w : World) (hsh : Sh w) :
    Calls Tryd.prog 24 #[.string s] w fun e w' => e = .returned (.string ⟨(wh s.data.toList).toArray⟩) ∧ Below w.heap.size w w' := by
  have HC : Hid (∀ w, Sh w → Calls Tryd.prog 44 #[.string s, .string ⟨#[0]⟩, .string ⟨#[239, 191, 189]⟩] w fun e w' => e = .returned (.string ⟨(wh s.data.toList).toArray⟩) ∧ Below w.heap.size w w') := by
    intro w hsh
    obtain ⟨m, hm⟩ := hsh
    have hc := Lib.countB_mul_le (⟨#[0]⟩ : ByteArray) (by decide) s.size s (Nat.le_refl _)
    rw [← wh_replace _ s.data.toList (Nat.le_refl _)]
    refine Any.strings_ReplaceAll Lb.n155 Lb.extra s ⟨#[0]⟩ ⟨#[239, 191, 189]⟩ m w (by omega) hm (by decide) ?_
    have e1 : (⟨#[0]⟩ : ByteArray).size = 1 := rfl
    have e2 : (⟨#[239, 191, 189]⟩ : ByteArray).size = 3 := rfl
    rw [e1] at hc
    rw [e2]
    omega
  have HS := Lib.hid hsh
  clear hsh
  go_enter Tryd.func24, Tryd.ntmps24
  go_wp2_with fail
  refine (HC.out _ HS.out).mono ?_
  rintro e w1 ⟨rfl, hb⟩
  go_wp2
  go_ret
  exact ⟨rfl, hb⟩

/-- How a method that takes the rest ends: whether it is whole; the token; what stands behind. -/
def Res (D : Nat) (s : ByteArray) (w : World) (x : Tk × List UInt8 × Bool) (e : Ending) (w' : World) : Prop := ∃ n', e = .returned (.bool x.2.2) ∧ Ps s n' x.2.1 ∧ Dc D s n' x.1 w' ∧ w.grownBy w' (some D)
theorem Res.of {D : Nat} {s : ByteArray} {w w0 : World} {x : Tk × List UInt8 × Bool} {e : Ending} {w' : World} (hg : w0.grownBy w (some D)) (h : Res D s w x e w') : Res D s w0 x e w' := by
  obtain ⟨n', h1, h2, h3, h4⟩ := h
  exact ⟨n', h1, h2, h3, gb_trans hg h4⟩

set_option maxRecDepth 100000 in
theorem close_calls (D : Nat) (s : ByteArray) (n : Nat) (t : Tk) (w : World) (b : Bool) (r : List UInt8) (hs : s.size ≤ 1099511627776) (h : Dc D s n t w) (hr : Ps s n r) :
    Calls Tryd.prog 33 #[.pointer (some ⟨D, 0, none⟩), .bool b] w (Res D s w (clo b t r)) := by
  have c1 := h.c1
  have cq := h.c11
  have fz := h.fz
  cases b with
  | true =>
    have H := Lib.hid h.setQ
    have HG := Lib.hid (gb_set (World.grownBy.refl w (some D)) 11 (.bool true))
    match r, hr with
    | [], hr =>
      have HR := Lib.hid hr
      clear h hr
      go_enter Tryd.func33, Tryd.ntmps33
      go_wp2_with fail
      refine (ended_yes D s n _ _ H.out HR.out).mono ?_
      rintro e w1 ⟨rfl, m, hw⟩
      have HW := Lib.hid hw
      clear hw
      go_wp2
      go_ret
      exact ⟨n, rfl, HR.out, by rw [HW.out]; exact H.out, by rw [HW.out]; exact gb_drewN HG.out _⟩
    | c :: r2, hr =>
      obtain ⟨hn, hx, hps⟩ := hr.cons
      have HP := Lib.hid hps
      clear h hr hx hps
      go_enter Tryd.func33, Tryd.ntmps33
      go_wp2_with fail
      refine (ended_no D s n _ _ H.out hn).mono ?_
      rintro e w1 ⟨rfl, m, hw⟩
      have hd : Dc D s n { t with q := true } w1 := by rw [hw]; exact H.out
      have hg : w.grownBy w1 (some D) := by rw [hw]; exact gb_drewN HG.out _
      have d1 := hd.c1
      have dz := hd.fz
      have H1 := Lib.hid hd
      have HG1 := Lib.hid hg
      clear hw hd hg c1 fz cq
      go_wp2
      go_ret
      exact ⟨n + 1, rfl, HP.out, H1.out.setAt _, gb_set HG1.out _ _⟩
  | false =>
    have H := Lib.hid h
    match r, hr with
    | [], hr =>
      have HR := Lib.hid hr
      clear h hr
      go_enter Tryd.func33, Tryd.ntmps33
      go_wp2_with fail
      refine (ended_yes D s n _ _ H.out HR.out).mono ?_
      rintro e w1 ⟨rfl, m, hw⟩
      have HW := Lib.hid hw
      clear hw
      go_wp2
      go_ret
      exact ⟨n, rfl, HR.out, by rw [HW.out]; exact H.out, by rw [HW.out]; exact gb_drewN (World.grownBy.refl _ _) _⟩
    | c :: r2, hr =>
      obtain ⟨hn, hx, hps⟩ := hr.cons
      have HP := Lib.hid hps
      clear h hr hx hps
      go_enter Tryd.func33, Tryd.ntmps33
      go_wp2_with fail
      refine (ended_no D s n _ _ H.out hn).mono ?_
      rintro e w1 ⟨rfl, m, hw⟩
      have hd : Dc D s n t w1 := by rw [hw]; exact H.out
      have hg : w.grownBy w1 (some D) := by rw [hw]; exact gb_drewN (World.grownBy.refl _ _) _
      have d1 := hd.c1
      have dz := hd.fz
      have H1 := Lib.hid hd
      have HG1 := Lib.hid hg
      clear hw hd hg c1 fz cq
      go_wp2
      go_ret
      exact ⟨n + 1, rfl, HP.out, H1.out.setAt _, gb_set HG1.out _ _⟩
theorem rest_calls (D : Nat) (s : ByteArray) (n : Nat) (t : Tk) (w : World) (r : List UInt8) (hs : s.size ≤ 1099511627776) (h : Dc D s n t w) (hr : Ps s n r) :
    Calls Tryd.prog 40 #[.pointer (some ⟨D, 0, none⟩)] w (Res D s w (rst t r)) := by
  have H := Lib.hid h
  have HR := Lib.hid hr
  clear h hr
  go_enter Tryd.func40, Tryd.ntmps40
  go_wp2_with fail
  refine (upto_gt D s n t _ r hs H.out HR.out).mono ?_
  rintro e w1 ⟨n', rfl, hp, hd, hg⟩
  have HP := Lib.hid hp
  have H1 := Lib.hid hd
  have HG := Lib.hid hg
  clear hp hd hg
  go_wp2_with fail
  refine (close_calls D s n' t _ false _ hs H1.out HP.out).mono ?_
  rintro e w2 ⟨n2, rfl, hp, hd, hg⟩
  have HP2 := Lib.hid hp
  have H2 := Lib.hid hd
  have HG2 := Lib.hid hg
  clear hp hd hg
  go_wp2
  go_ret
  exact ⟨n2, rfl, HP2.out, H2.out, gb_trans HG.out HG2.out⟩
theorem broken_in (D : Nat) (s : ByteArray) (n : Nat) (t : Tk) (w : World) (r : List UInt8) (hs : s.size ≤ 1099511627776) (h : Dc D s n t w) (hr : Ps s n r) :
    Calls Tryd.prog 39 #[.pointer (some ⟨D, 0, none⟩), .bool true] w (Res D s w (clo true { t with q := true } r)) := by
  have fz := h.fz
  have cq := h.c11
  have H := Lib.hid h.setQ
  have HG := Lib.hid (gb_set (World.grownBy.refl w (some D)) 11 (.bool true))
  have HR := Lib.hid hr
  clear h hr
  go_enter Tryd.func39, Tryd.ntmps39
  go_wp2_with fail
  refine (close_calls D s n _ _ true _ hs H.out HR.out).mono ?_
  rintro e w2 ⟨n2, rfl, hp, hd, hg⟩
  have HP2 := Lib.hid hp
  have H2 := Lib.hid hd
  have HG2 := Lib.hid hg
  clear hp hd hg
  go_wp2
  go_ret
  exact ⟨n2, rfl, HP2.out, H2.out, gb_trans HG.out HG2.out⟩
theorem broken_out (D : Nat) (s : ByteArray) (n : Nat) (t : Tk) (w : World) (r : List UInt8) (hs : s.size ≤ 1099511627776) (h : Dc D s n t w) (hr : Ps s n r) :
    Calls Tryd.prog 39 #[.pointer (some ⟨D, 0, none⟩), .bool false] w (Res D s w (rst { t with q := true } r)) := by
  have fz := h.fz
  have cq := h.c11
  have H := Lib.hid h.setQ
  have HG := Lib.hid (gb_set (World.grownBy.refl w (some D)) 11 (.bool true))
  have HR := Lib.hid hr
  clear h hr
  go_enter Tryd.func39, Tryd.ntmps39
  go_wp2_with fail
  refine (rest_calls D s n _ _ _ hs H.out HR.out).mono ?_
  rintro e w2 ⟨n2, rfl, hp, hd, hg⟩
  have HP2 := Lib.hid hp
  have H2 := Lib.hid hd
  have HG2 := Lib.hid hg
  clear hp hd hg
  go_wp2
  go_ret
  exact ⟨n2, rfl, HP2.out, H2.out, gb_trans HG.out HG2.out⟩
end Go.Proofs.YtileclmmobkcaaaDoor
