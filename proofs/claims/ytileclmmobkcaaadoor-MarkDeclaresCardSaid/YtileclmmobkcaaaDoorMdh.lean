/-
  The contract of mark.declaration's method word. The condition: the text takes at most 2 to the 40th bytes, the word at most 100.
-/
import Derived.Test.YtileclmmobkcaaaDoorMdg
set_option linter.unusedVariables false
namespace Go.Proofs.YtileclmmobkcaaaDoor
open Go.RowKit Go.Shelf

theorem ba_eq (a b : ByteArray) : (a.toList == b.toList) = (a.data.toList == b.data.toList) := by
  rw [Bool.eq_iff_iff]
  simp only [beq_iff_eq]
  constructor
  · intro h
    have : a = b := ByteArray.ext (Array.ext' (by
      have e : ∀ x : ByteArray, x.toList = x.data.toList := fun x => Lib.toList_data x
      rw [← e a, ← e b]; exact h))
    rw [this]
  · intro h
    have : a = b := ByteArray.ext (Array.ext' h)
    rw [this]
theorem wd_short (W r : List UInt8) (h : r.length < W.length) : wd W r = false := by unfold wd; simp; omega
theorem wd_long (W r : List UInt8) (h : W.length ≤ r.length) : wd W r = (lw (r.take W.length) == W) := by unfold wd; simp [h]

set_option maxRecDepth 100000 in
theorem word_calls (D : Nat) (s W : ByteArray) (n : Nat) (t : Tk) (w : World) (r : List UInt8) (hs : s.size ≤ 1099511627776) (hW : W.size ≤ 100) (h : Dc D s n t w) (hr : Ps s n r) :
    Calls Tryd.prog 37 #[.pointer (some ⟨D, 0, none⟩), .string W] w (Res D s w (t, if wd W.data.toList r then r.drop W.size else r, wd W.data.toList r)) := by
  have c0 := h.c0
  have c1 := h.c1
  have hle := hr.le
  have hlen := hr.len
  have hWl : W.data.toList.length = W.size := by simp
  have H := Lib.hid h
  have HR := Lib.hid hr
  by_cases hl : r.length < W.size
  · have HD : Hid (wd W.data.toList r = false) := wd_short _ _ (by omega)
    have hl' : (s.size - n : Int) < W.size := by omega
    have hl2 : ((s.size - n : Nat) : Int) < (W.size : Nat) := by omega
    have hl3 : s.size - n < W.size := by omega
    clear h hr
    rw [HD.out]
    go_enter Tryd.func37, Tryd.ntmps37
    go_wp2
    go_quiet (fail)
    go_wp2
    go_ret
    exact ⟨n, rfl, HR.out, H.out, gb_drewN (World.grownBy.refl _ _) _⟩
  · have hl2 : ¬ (s.size - n < W.size) := by omega
    have hX : ((s.extract n s.size).extract 0 W.size).data.toList = r.take W.size := by
      rw [Lib.extract_data, Lib.extract_data, hr.eq, List.drop_zero, Nat.sub_zero]
      congr 1
      exact List.take_of_length_le (by omega)
    have hXs : ((s.extract n s.size).extract 0 W.size).size ≤ 100 := by simp; omega
    have HLO : Hid (∀ w, Calls Tryd.prog 16 #[.string ((s.extract n s.size).extract 0 W.size)] w fun e w' => e = .returned (.string ⟨(lwr (r.take W.size)).toArray⟩) ∧ Below w.heap.size w w') := fun w => by
      have := lower_calls ((s.extract n s.size).extract 0 W.size) (by omega) w
      rwa [hX] at this
    have HWD : Hid (((⟨(lwr (r.take W.size)).toArray⟩ : ByteArray).toList == W.toList) = wd W.data.toList r) := by
      unfold Hid
      rw [ba_eq, wd_long _ _ (by omega), hWl]; rfl
    cases hwd : wd W.data.toList r with
    | true =>
      have hb : ((⟨(lwr (r.take W.size)).toArray⟩ : ByteArray).toList == W.toList) = true := HWD.out.trans hwd
      have HP := Lib.hid (hr.drop W.size (by omega))
      clear h hr hX HWD hwd
      go_enter Tryd.func37, Tryd.ntmps37
      go_wp2
      go_quiet (fail)
      go_wp2_with fail
      refine (HLO.out _).mono ?_
      rintro e w1 ⟨rfl, hb1⟩
      have hd1 := (H.out.drewN _).below hb1
      have HG := Lib.hid (gb_trans (gb_drewN (World.grownBy.refl w (some D)) _) (gb_of_below (D := D) hb1))
      have HD1 := Lib.hid hd1
      have d1 := hd1.c1
      have dz := hd1.fz
      clear hb1 hd1 c0 c1 HLO
      generalize (⟨(lwr (r.take W.size)).toArray⟩ : ByteArray) = X at *
      go_wp2
      go_ret
      exact ⟨n + W.size, rfl, HP.out, HD1.out.setAt _, gb_set HG.out _ _⟩
    | false =>
      have hb : ((⟨(lwr (r.take W.size)).toArray⟩ : ByteArray).toList == W.toList) = false := HWD.out.trans hwd
      clear h hr hX HWD hwd
      go_enter Tryd.func37, Tryd.ntmps37
      go_wp2
      go_quiet (fail)
      go_wp2_with fail
      refine (HLO.out _).mono ?_
      rintro e w1 ⟨rfl, hb1⟩
      have HG := Lib.hid (gb_trans (gb_drewN (World.grownBy.refl w (some D)) _) (gb_of_below (D := D) hb1))
      have HD1 := Lib.hid ((H.out.drewN _).below hb1)
      clear hb1 c0 c1 HLO
      generalize (⟨(lwr (r.take W.size)).toArray⟩ : ByteArray) = X at *
      go_wp2
      go_ret
      exact ⟨n, rfl, HR.out, HD1.out, HG.out⟩
end Go.Proofs.YtileclmmobkcaaaDoor
