/-
  Contracts of mark.declaration's methods is, blanks, upto, close, rest, broken. The condition: the text takes at most 2 to the 40th bytes.
-/
import Derived.Test.YtileclmmobkcaaaDoorMdc
set_option linter.unusedVariables false
namespace Go.Proofs.YtileclmmobkcaaaDoor
open Go.RowKit Go.Shelf

theorem is_none (D : Nat) (s : ByteArray) (n : Nat) (t : Tk) (c : Int) (w : World) (h : Dc D s n t w) (hr : Ps s n []) :
    Calls Tryd.prog 32 #[.pointer (some ⟨D, 0, none⟩), .int .u8 c] w fun e w' => e = .returned (.bool false) ∧ ∃ m, w' = w.drewN m := by
  have c0 := h.c0
  have c1 := h.c1
  have H := Lib.hid h
  have HR := Lib.hid hr
  clear h hr
  go_enter Tryd.func32, Tryd.ntmps32
  go_wp2
  go_quiet ((go_at_call 31; exact Calls.quiet_of (ended_yes D s n t _ (H.out.drewN _) HR.out)))
  go_wp2
  go_ret
  exact ⟨rfl, _, rfl⟩
theorem is_some (D : Nat) (s : ByteArray) (n : Nat) (t : Tk) (c : Int) (w : World) (x : UInt8) (r : List UInt8) (h : Dc D s n t w) (hr : Ps s n (x :: r)) :
    Calls Tryd.prog 32 #[.pointer (some ⟨D, 0, none⟩), .int .u8 c] w fun e w' => e = .returned (.bool (((x.toNat : Nat) : Int) == c)) ∧ ∃ m, w' = w.drewN m := by
  have c0 := h.c0
  have c1 := h.c1
  obtain ⟨hn, hx, _⟩ := hr.cons
  have HX := Lib.hid hx
  have H := Lib.hid h
  have h0 : (0 : Int) ≤ n := by omega
  have h1 : (n : Int) < s.size := by omega
  clear h hr hx
  go_enter Tryd.func32, Tryd.ntmps32
  go_wp2
  go_quiet ((go_at_call 31; exact Calls.quiet_of (ended_no D s n t _ (H.out.drewN _) (by omega))))
  go_wp2
  go_ret
  exact ⟨ret_bool (by rw [← HX.out]), _, rfl⟩

set_option maxRecDepth 100000 in
theorem blanks_calls (D : Nat) (s : ByteArray) (n : Nat) (t : Tk) (w : World) (r : List UInt8) (hs : s.size ≤ 1099511627776) (h : Dc D s n t w) (hr : Ps s n r) :
    Calls Tryd.prog 30 #[.pointer (some ⟨D, 0, none⟩)] w fun e w' => ∃ n', e = .returned (.tuple #[]) ∧ Ps s n' (db r) ∧ Dc D s n' t w' ∧ w.grownBy w' (some D) := by
  go_enter Tryd.func30, Tryd.ntmps30
  go_wp2
  go_loopg [17] (r.length + 1) (fun g v wr => ∃ n' r', Ps s n' r' ∧ g = r'.length + 1 ∧ Hid (db r' = db r) ∧ Dc D s n' t wr ∧ w.grownBy wr (some D))
  case atStart => exact ⟨n, r, hr, rfl, rfl, h, World.grownBy.refl _ _⟩
  case round =>
    obtain ⟨n', r', hr', rfl, HD, hd, hg⟩ := hrel
    have c0 := hd.c0
    have c1 := hd.c1
    have fz := hd.fz
    have H := Lib.hid hd
    have HG := Lib.hid hg
    match r', hr', HD with
    | [], hr', HD =>
      have HR := Lib.hid hr'
      clear hd hg hr' h hr
      go_wp2
      go_quiet ((go_at_call 31; exact Calls.quiet_of (ended_yes D s n' t _ (H.out.drewN _) HR.out)))
      go_wp2
      go_end0
      exact ⟨n', rfl, by rw [← HD.out]; exact HR.out, H.out.drewN _, gb_drewN HG.out _⟩
    | c :: r2, hr', HD =>
      obtain ⟨hn, hx, hps⟩ := hr'.cons
      have HX := Lib.hid hx
      have HP := Lib.hid hps
      have h0 : (0 : Int) ≤ n' := by omega
      have h1 : (n' : Int) < s.size := by omega
      have hc := c.toNat_lt
      have hcc : (s[n'].toNat : Int) < 256 := by have := s[n'].toNat_lt; omega
      have HSP : Hid (isSpc (s[n'].toNat : Int) = bsp c) := by unfold Hid; rw [hx]; rfl
      by_cases hb : bsp c = true
      · have HB : Hid (db r2 = db r) := by unfold Hid; rw [← HD.out, db_pos _ _ hb]
        have HSQ : Hid (∀ w, Calls Tryd.prog 36 #[.int .i32 (s[n'].toNat : Int)] w fun e w' => e = .returned (.bool true) ∧ w' = w) := fun w => by
          have := space_calls (s[n'].toNat : Int) w
          rw [HSP.out, hb] at this
          exact this.mono fun _ _ h => ⟨h.1, h.2.symm⟩
        clear hd hg hr' h hr hx hb hps HSP
        go_wp2
        go_quiet (first
          | (go_at_call 31; exact Calls.quiet_of (ended_no D s n' t _ (H.out.drewN _) (by omega)))
          | (go_at_call 36; exact Calls.quiet_of_same (HSQ.out _)))
        go_wp2
        go_roundg (r2.length + 1)
        case measure => simp
        case rel => exact ⟨n' + 1, r2, HP.out, rfl, HB, (H.out.drewN _).setAt _, gb_set (gb_drewN HG.out _) _ _⟩
      · have hb' : bsp c = false := by simpa using hb
        have HB : Hid (db r = c :: r2) := by unfold Hid; rw [← HD.out, db_neg _ _ hb]
        have HR := Lib.hid hr'
        have HSQ : Hid (∀ w, Calls Tryd.prog 36 #[.int .i32 (s[n'].toNat : Int)] w fun e w' => e = .returned (.bool false) ∧ w' = w) := fun w => by
          have := space_calls (s[n'].toNat : Int) w
          rw [HSP.out, hb'] at this
          exact this.mono fun _ _ h => ⟨h.1, h.2.symm⟩
        clear hd hg hr' h hr hx hb hb' hps HSP
        go_wp2
        go_quiet (first
          | (go_at_call 31; exact Calls.quiet_of (ended_no D s n' t _ (H.out.drewN _) (by omega)))
          | (go_at_call 36; exact Calls.quiet_of_same (HSQ.out _)))
        go_wp2
        go_end0
        exact ⟨n', rfl, by rw [HB.out]; exact HR.out, H.out.drewN _, gb_drewN HG.out _⟩
end Go.Proofs.YtileclmmobkcaaaDoor
