/-
  The contract of the document's answer (lacunaref04): comment. The condition: the text takes at most 2 to the 24th bytes.
-/
import Derived.Test.YtileclmmobkcaaaDoorMrc
set_option linter.unusedVariables false
namespace Go.Proofs.YtileclmmobkcaaaDoor
open Go.RowKit Go.Shelf

theorem b_of (c : UInt8) (x : UInt8) (k : Int) (hk : ((x.toNat : Nat) : Int) = k) (v : Bool) (h : (c == x) = v) : (((c.toNat : Nat) : Int) == k) = v := by
  rw [← h, ← hk]; exact byte_eq c x
/-- What a round of the states hands on. -/
def CmR (s : ByteArray) (w : World) (R : List UInt8 × Nat × Bool) (v8 v9 : Value) (wr : World) : Prop :=
  ∃ (p st : Nat) (t r' : List UInt8), v8 = .int .i64 st ∧ v9 = .int .i64 p ∧ p ≤ s.size ∧ st ≤ 5 ∧ Ps s p r' ∧ Hid (cmR st t p r' = R) ∧ Tb (w.heap.size + 1) { kind := 4, text := t } wr ∧ Tb w.heap.size { kind := 0 } wr ∧ Below w.heap.size w wr ∧ t.length ≤ 6 * p
theorem CmR.mk {s : ByteArray} {w : World} {R : List UInt8 × Nat × Bool} {wr : World} {k : Int} {p st : Nat} {t r' : List UInt8} (hk : k = ((p : Nat) : Int)) (h1 : p ≤ s.size) (h2 : st ≤ 5) (h3 : Ps s p r') (h4 : Hid (cmR st t p r' = R)) (h5 : Tb (w.heap.size + 1) { kind := 4, text := t } wr) (h6 : Tb w.heap.size { kind := 0 } wr) (h7 : Below w.heap.size w wr) (h8 : t.length ≤ 6 * p) {j : Int} (hj : j = ((st : Nat) : Int)) : CmR s w R (.int .i64 j) (.int .i64 k) wr :=
  ⟨p, st, t, r', by rw [hj], by rw [hk], h1, h2, h3, h4, h5, h6, h7, h8⟩

set_option maxRecDepth 100000 in
set_option maxHeartbeats 8000000 in
theorem commentR_calls (s : ByteArray) (n : Nat) (r : List UInt8) (hs : s.size ≤ 16777216) (hr : Ps s n r) (w : World) :
    Calls Tryd.prog 20 #[.string s, .int .i64 n] w (TR w { kind := 4, text := (cmR 0 [] n r).1 } ((cmR 0 [] n r).2.1 : Nat) (cmR 0 [] n r).2.2) := by
  have hn := hr.le
  have HR := Lib.hid hr
  obtain ⟨R, hR⟩ : ∃ R, cmR 0 [] n r = R := ⟨_, rfl⟩
  rw [hR]
  have HRR := Lib.hid hR
  clear hr hR
  go_enter Tryd.func20, Tryd.ntmps20
  have HT0 := Lib.hid (Tb.new w)
  have hb0 : Below w.heap.size w (w.alloc (.cells #[.int .u8 0, .string ⟨#[]⟩, .slice none 0 0, .bool false, .string ⟨#[]⟩, .string ⟨#[]⟩, .string ⟨#[]⟩, .bool false, .bool false, .bool false] 26)) := (Below.refl _ w).alloc (Nat.le_refl _) _
  have HB0 := Lib.hid hb0
  clear hb0
  go_wp2
  generalize hW1 : World.alloc _ _ = W1
  have hs0 : (w.alloc (.cells #[.int .u8 0, .string ⟨#[]⟩, .slice none 0 0, .bool false, .string ⟨#[]⟩, .string ⟨#[]⟩, .string ⟨#[]⟩, .bool false, .bool false, .bool false] 26)).heap.size = w.heap.size + 1 := by simp
  have hT1 : Tb (w.heap.size + 1) { kind := 4 } W1 := by
    have := heap_alloc_new (w.alloc (.cells #[.int .u8 0, .string ⟨#[]⟩, .slice none 0 0, .bool false, .string ⟨#[]⟩, .string ⟨#[]⟩, .string ⟨#[]⟩, .bool false, .bool false, .bool false] 26)) (.cells (tkCells { kind := 4 }) 26)
    rw [hs0] at this
    rw [← hW1]; exact this
  have hT0 : Tb w.heap.size { kind := 0 } W1 := by rw [← hW1]; exact HT0.out.alloc _
  have hB1 : Below w.heap.size w W1 := by rw [← hW1]; exact HB0.out.alloc HB0.out.size _
  clear hW1 HT0 HB0 hs0
  go_loopw [8, 9] (fun v8 v9 wr => CmR s w R v8 v9 wr) (fun _ v9 _ => s.size - (intOf v9).toNat)
  case atStart => exact ⟨n, 0, [], r, rfl, rfl, hn, by omega, HR.out, HRR.out, hT1, hT0, hB1, by simp⟩
  case round =>
    obtain ⟨p, st, t, r', rfl, rfl, hp, hst, hps, HQ, hTt, hTr, hB, htl⟩ := hrel
    have HB := Lib.hid hB
    have HTt := Lib.hid hTt
    have HTr := Lib.hid hTr
    have hlt2 := hTt.lt
    have hlt3 := hTr.lt
    cases r' with
    | nil =>
      obtain rfl := hps.nil
      have hpp : ¬ ((s.size : Int) < s.size) := by omega
      obtain ⟨c0, c1, c2, c3, c4, c5, c6, c7, c8, c9, fz⟩ := hTt.cs
      obtain ⟨d0, d1, d2, d3, d4, d5, d6, d7, d8, d9, dz⟩ := hTr.cs
      clear hT1 hT0 hB1 hTt hTr hB hps
      go_wp2
      generalize hW3 : World.setCell _ _ _ = W3
      have hR3 : Tb w.heap.size { kind := 4, text := t } W3 := by rw [← hW3]; exact set10 HTr.out _ _ _ _ _ _ _ _ _ _
      have hB3 : Below w.heap.size w W3 := by rw [← hW3]; exact below_sets HB.out (Nat.le_refl _) _ _ _ _ _ _ _ _ _ _
      refine bodyPost_ret (results_tok rfl rfl hR3) rfl ⟨?_, hB3⟩
      rw [← HQ.out]; rfl
    | cons c r2 =>
      obtain ⟨hpl, hx, hps2⟩ := hps.cons
      have hplt : (p : Int) < s.size := by omega
      have HX := Lib.hid hx
      have HP := Lib.hid hps2
      have hcc : (s[p].toNat : Int) < 256 := by have := s[p].toNat_lt; omega
      have hts := size_arr t
      have hwb := whB_le s[p]
      have hwb2 : (whB s[p]).length = (whB c).length := by rw [hx]
      have e45 := b_of s[p] 45 45 rfl (s[p] == 45) rfl
      have e62 := b_of s[p] 62 62 rfl (s[p] == 62) rfl
      have e33 := b_of s[p] 33 33 rfl (s[p] == 33) rfl
      rw [hx] at e45 e62 e33
      have hxc : s[p].toNat = c.toNat := by rw [hx]
      clear hT1 hT0 hB1 hTt hTr hB hps hps2
      have hst6 : st = 0 ∨ st = 1 ∨ st = 2 ∨ st = 3 ∨ st = 4 ∨ st = 5 := by omega
      clear hst
      rcases hst6 with rfl | rfl | rfl | rfl | rfl | rfl
      ·
        by_cases h45 : c = 45
        ·
          have f45 : (((s[p].toNat : Nat) : Int) == 45) = true := by rw [hx, b_of c 45 45 rfl _ rfl]; simpa using h45
          clear e45 e62 e33 hxc
          have KH : True := trivial
          have HQ2 : Hid (cmR 1 t (p + 1) r2 = R) := by unfold Hid; rw [← HQ.out]; exact (cmR_some _ _ _ _ _ _ _ (by simp [cmS, h45])).symm
          clear hx HX hwb hwb2 hts KH  h45
          go_wp2
          go_roundw
          case rel => exact CmR.mk (by omega) (by omega) (by omega) HP.out HQ2.out HTt.out HTr.out HB.out (by omega) (by omega)
          case measure => simp [intOf]; omega
        by_cases h62 : c = 62
        ·
          have f45 : (((s[p].toNat : Nat) : Int) == 45) = false := by rw [hx, b_of c 45 45 rfl _ rfl]; simpa using h45
          have f62 : (((s[p].toNat : Nat) : Int) == 62) = true := by rw [hx, b_of c 62 62 rfl _ rfl]; simpa using h62
          clear e45 e62 e33 hxc
          have KH : True := trivial
          have HQ2 : Hid (R = (t, p + 1, true)) := by unfold Hid; rw [← HQ.out]; exact cmR_none _ _ _ _ _ (by simp [cmS, h45, h62])
          obtain ⟨c0, c1, c2, c3, c4, c5, c6, c7, c8, c9, fz⟩ := HTt.out.cs
          obtain ⟨d0, d1, d2, d3, d4, d5, d6, d7, d8, d9, dz⟩ := HTr.out.cs
          clear hx HX hwb hwb2 hts KH  h45 h62
          go_wp2
          generalize hW3 : World.setCell _ _ _ = W3
          have hR3 : Tb w.heap.size { kind := 4, text := t } W3 := by rw [← hW3]; exact set10 HTr.out _ _ _ _ _ _ _ _ _ _
          have hB3 : Below w.heap.size w W3 := by rw [← hW3]; exact below_sets HB.out (Nat.le_refl _) _ _ _ _ _ _ _ _ _ _
          refine bodyPost_ret (results_tok rfl rfl hR3) rfl ⟨?_, hB3⟩
          rw [HQ2.out]
          refine tok_end ?_
          show (p : Int) + 1 = ((p + 1 : Nat) : Int)
          omega
        have f45 : (((s[p].toNat : Nat) : Int) == 45) = false := by rw [hx, b_of c 45 45 rfl _ rfl]; simpa using h45
        have f62 : (((s[p].toNat : Nat) : Int) == 62) = false := by rw [hx, b_of c 62 62 rfl _ rfl]; simpa using h62
        clear e45 e62 e33 hxc
        have KH : True := trivial
        have HQ2 : Hid (cmR 2 (t ++ whB c) (p + 1) r2 = R) := by unfold Hid; rw [← HQ.out]; exact (cmR_some _ _ _ _ _ _ _ (by simp [cmS, h45, h62])).symm
        have AD : Hid (∀ w, Calls Tryd.prog 25 #[.string ((⟨t.toArray⟩ : ByteArray)), .int .u8 (s[p].toNat : Nat)] w fun e w' => e = .returned (.string ⟨(t ++ whB c).toArray⟩) ∧ Below w.heap.size w w') := fun w => by
          have := add_calls ((⟨t.toArray⟩ : ByteArray)) s[p] (by omega) w
          rw [hx] at this ⊢
          exact this.mono fun _ _ h => ⟨h.1.trans (ret_str (by simp)), h.2⟩
        have c4 := HTt.out.cs.c4
        have fz := HTt.out.cs.fz
        have hwc := whB_le c
        clear hx HX hwb hwb2 KH  h45 h62
        go_wp2_with fail
        refine (AD.out _).mono ?_
        rintro e w1 ⟨rfl, hb1⟩
        have hT2 := HTt.out.below hb1 hlt2
        have e4 := hT2.cs.c4
        have ez := hT2.cs.fz
        have HB2 := Lib.hid (HB.out.trans (hb1.mono HB.out.size))
        have HT3 := Lib.hid (hT2.setText (t ++ whB c))
        have HT4 := Lib.hid ((HTr.out.below hb1 hlt3).other (j := 4) (show w.heap.size ≠ w.heap.size + 1 by omega) (.string ⟨(t ++ whB c).toArray⟩))
        clear hb1 hT2 c4 fz
        go_wp2
        go_roundw
        case rel => exact CmR.mk (p := p + 1) (st := 2) (t := t ++ whB c) (r' := r2) (by omega) (by omega) (by omega) HP.out HQ2.out HT3.out HT4.out (HB2.out.setCell (p := ⟨w.heap.size + 1, 4, none⟩) (by simp) _) (by simp; omega) (by omega)
        case measure => simp [intOf]; omega
      ·
        by_cases h45 : c = 45
        ·
          have f45 : (((s[p].toNat : Nat) : Int) == 45) = true := by rw [hx, b_of c 45 45 rfl _ rfl]; simpa using h45
          clear e45 e62 e33 hxc
          have KH : True := trivial
          have HQ2 : Hid (cmR 4 t (p + 1) r2 = R) := by unfold Hid; rw [← HQ.out]; exact (cmR_some _ _ _ _ _ _ _ (by simp [cmS, h45])).symm
          clear hx HX hwb hwb2 hts KH  h45
          go_wp2
          go_roundw
          case rel => exact CmR.mk (by omega) (by omega) (by omega) HP.out HQ2.out HTt.out HTr.out HB.out (by omega) (by omega)
          case measure => simp [intOf]; omega
        by_cases h62 : c = 62
        ·
          have f45 : (((s[p].toNat : Nat) : Int) == 45) = false := by rw [hx, b_of c 45 45 rfl _ rfl]; simpa using h45
          have f62 : (((s[p].toNat : Nat) : Int) == 62) = true := by rw [hx, b_of c 62 62 rfl _ rfl]; simpa using h62
          clear e45 e62 e33 hxc
          have KH : True := trivial
          have HQ2 : Hid (R = (t, p + 1, true)) := by unfold Hid; rw [← HQ.out]; exact cmR_none _ _ _ _ _ (by simp [cmS, h45, h62])
          obtain ⟨c0, c1, c2, c3, c4, c5, c6, c7, c8, c9, fz⟩ := HTt.out.cs
          obtain ⟨d0, d1, d2, d3, d4, d5, d6, d7, d8, d9, dz⟩ := HTr.out.cs
          clear hx HX hwb hwb2 hts KH  h45 h62
          go_wp2
          generalize hW3 : World.setCell _ _ _ = W3
          have hR3 : Tb w.heap.size { kind := 4, text := t } W3 := by rw [← hW3]; exact set10 HTr.out _ _ _ _ _ _ _ _ _ _
          have hB3 : Below w.heap.size w W3 := by rw [← hW3]; exact below_sets HB.out (Nat.le_refl _) _ _ _ _ _ _ _ _ _ _
          refine bodyPost_ret (results_tok rfl rfl hR3) rfl ⟨?_, hB3⟩
          rw [HQ2.out]
          refine tok_end ?_
          show (p : Int) + 1 = ((p + 1 : Nat) : Int)
          omega
        have f45 : (((s[p].toNat : Nat) : Int) == 45) = false := by rw [hx, b_of c 45 45 rfl _ rfl]; simpa using h45
        have f62 : (((s[p].toNat : Nat) : Int) == 62) = false := by rw [hx, b_of c 62 62 rfl _ rfl]; simpa using h62
        clear e45 e62 e33 hxc
        have KH : True := trivial
        have HQ2 : Hid (cmR 2 (t ++ 45 :: whB c) (p + 1) r2 = R) := by unfold Hid; rw [← HQ.out]; exact (cmR_some _ _ _ _ _ _ _ (by simp [cmS, h45, h62])).symm
        have AD : Hid (∀ w, Calls Tryd.prog 25 #[.string ((⟨t.toArray⟩ : ByteArray) ++ ⟨#[45]⟩), .int .u8 (s[p].toNat : Nat)] w fun e w' => e = .returned (.string ⟨(t ++ 45 :: whB c).toArray⟩) ∧ Below w.heap.size w w') := fun w => by
          have := add_calls ((⟨t.toArray⟩ : ByteArray) ++ ⟨#[45]⟩) s[p] (by rw [ByteArray.size_append]; have hz : (⟨#[45]⟩ : ByteArray).size = 1 := rfl; omega) w
          rw [hx] at this ⊢
          exact this.mono fun _ _ h => ⟨h.1.trans (ret_str (by simp)), h.2⟩
        have c4 := HTt.out.cs.c4
        have fz := HTt.out.cs.fz
        have hwc := whB_le c
        clear hx HX hwb hwb2 KH  h45 h62
        go_wp2_with fail
        refine (AD.out _).mono ?_
        rintro e w1 ⟨rfl, hb1⟩
        have hT2 := HTt.out.below hb1 hlt2
        have e4 := hT2.cs.c4
        have ez := hT2.cs.fz
        have HB2 := Lib.hid (HB.out.trans (hb1.mono HB.out.size))
        have HT3 := Lib.hid (hT2.setText (t ++ 45 :: whB c))
        have HT4 := Lib.hid ((HTr.out.below hb1 hlt3).other (j := 4) (show w.heap.size ≠ w.heap.size + 1 by omega) (.string ⟨(t ++ 45 :: whB c).toArray⟩))
        clear hb1 hT2 c4 fz
        go_wp2
        go_roundw
        case rel => exact CmR.mk (p := p + 1) (st := 2) (t := t ++ 45 :: whB c) (r' := r2) (by omega) (by omega) (by omega) HP.out HQ2.out HT3.out HT4.out (HB2.out.setCell (p := ⟨w.heap.size + 1, 4, none⟩) (by simp) _) (by simp; omega) (by omega)
        case measure => simp [intOf]; omega
      ·
        by_cases h45 : c = 45
        ·
          have f45 : (((s[p].toNat : Nat) : Int) == 45) = true := by rw [hx, b_of c 45 45 rfl _ rfl]; simpa using h45
          clear e45 e62 e33 hxc
          have KH : True := trivial
          have HQ2 : Hid (cmR 3 t (p + 1) r2 = R) := by unfold Hid; rw [← HQ.out]; exact (cmR_some _ _ _ _ _ _ _ (by simp [cmS, h45])).symm
          clear hx HX hwb hwb2 hts KH  h45
          go_wp2
          go_roundw
          case rel => exact CmR.mk (by omega) (by omega) (by omega) HP.out HQ2.out HTt.out HTr.out HB.out (by omega) (by omega)
          case measure => simp [intOf]; omega
        have f45 : (((s[p].toNat : Nat) : Int) == 45) = false := by rw [hx, b_of c 45 45 rfl _ rfl]; simpa using h45
        clear e45 e62 e33 hxc
        have KH : True := trivial
        have HQ2 : Hid (cmR 2 (t ++ whB c) (p + 1) r2 = R) := by unfold Hid; rw [← HQ.out]; exact (cmR_some _ _ _ _ _ _ _ (by simp [cmS, h45])).symm
        have AD : Hid (∀ w, Calls Tryd.prog 25 #[.string ((⟨t.toArray⟩ : ByteArray)), .int .u8 (s[p].toNat : Nat)] w fun e w' => e = .returned (.string ⟨(t ++ whB c).toArray⟩) ∧ Below w.heap.size w w') := fun w => by
          have := add_calls ((⟨t.toArray⟩ : ByteArray)) s[p] (by omega) w
          rw [hx] at this ⊢
          exact this.mono fun _ _ h => ⟨h.1.trans (ret_str (by simp)), h.2⟩
        have c4 := HTt.out.cs.c4
        have fz := HTt.out.cs.fz
        have hwc := whB_le c
        clear hx HX hwb hwb2 KH  h45
        go_wp2_with fail
        refine (AD.out _).mono ?_
        rintro e w1 ⟨rfl, hb1⟩
        have hT2 := HTt.out.below hb1 hlt2
        have e4 := hT2.cs.c4
        have ez := hT2.cs.fz
        have HB2 := Lib.hid (HB.out.trans (hb1.mono HB.out.size))
        have HT3 := Lib.hid (hT2.setText (t ++ whB c))
        have HT4 := Lib.hid ((HTr.out.below hb1 hlt3).other (j := 4) (show w.heap.size ≠ w.heap.size + 1 by omega) (.string ⟨(t ++ whB c).toArray⟩))
        clear hb1 hT2 c4 fz
        go_wp2
        go_roundw
        case rel => exact CmR.mk (p := p + 1) (st := 2) (t := t ++ whB c) (r' := r2) (by omega) (by omega) (by omega) HP.out HQ2.out HT3.out HT4.out (HB2.out.setCell (p := ⟨w.heap.size + 1, 4, none⟩) (by simp) _) (by simp; omega) (by omega)
        case measure => simp [intOf]; omega
      ·
        by_cases h45 : c = 45
        ·
          have f45 : (((s[p].toNat : Nat) : Int) == 45) = true := by rw [hx, b_of c 45 45 rfl _ rfl]; simpa using h45
          clear e45 e62 e33 hxc
          have KH : True := trivial
          have HQ2 : Hid (cmR 4 t (p + 1) r2 = R) := by unfold Hid; rw [← HQ.out]; exact (cmR_some _ _ _ _ _ _ _ (by simp [cmS, h45])).symm
          clear hx HX hwb hwb2 hts KH  h45
          go_wp2
          go_roundw
          case rel => exact CmR.mk (by omega) (by omega) (by omega) HP.out HQ2.out HTt.out HTr.out HB.out (by omega) (by omega)
          case measure => simp [intOf]; omega
        have f45 : (((s[p].toNat : Nat) : Int) == 45) = false := by rw [hx, b_of c 45 45 rfl _ rfl]; simpa using h45
        clear e45 e62 e33 hxc
        have KH : True := trivial
        have HQ2 : Hid (cmR 2 (t ++ 45 :: whB c) (p + 1) r2 = R) := by unfold Hid; rw [← HQ.out]; exact (cmR_some _ _ _ _ _ _ _ (by simp [cmS, h45])).symm
        have AD : Hid (∀ w, Calls Tryd.prog 25 #[.string ((⟨t.toArray⟩ : ByteArray) ++ ⟨#[45]⟩), .int .u8 (s[p].toNat : Nat)] w fun e w' => e = .returned (.string ⟨(t ++ 45 :: whB c).toArray⟩) ∧ Below w.heap.size w w') := fun w => by
          have := add_calls ((⟨t.toArray⟩ : ByteArray) ++ ⟨#[45]⟩) s[p] (by rw [ByteArray.size_append]; have hz : (⟨#[45]⟩ : ByteArray).size = 1 := rfl; omega) w
          rw [hx] at this ⊢
          exact this.mono fun _ _ h => ⟨h.1.trans (ret_str (by simp)), h.2⟩
        have c4 := HTt.out.cs.c4
        have fz := HTt.out.cs.fz
        have hwc := whB_le c
        clear hx HX hwb hwb2 KH  h45
        go_wp2_with fail
        refine (AD.out _).mono ?_
        rintro e w1 ⟨rfl, hb1⟩
        have hT2 := HTt.out.below hb1 hlt2
        have e4 := hT2.cs.c4
        have ez := hT2.cs.fz
        have HB2 := Lib.hid (HB.out.trans (hb1.mono HB.out.size))
        have HT3 := Lib.hid (hT2.setText (t ++ 45 :: whB c))
        have HT4 := Lib.hid ((HTr.out.below hb1 hlt3).other (j := 4) (show w.heap.size ≠ w.heap.size + 1 by omega) (.string ⟨(t ++ 45 :: whB c).toArray⟩))
        clear hb1 hT2 c4 fz
        go_wp2
        go_roundw
        case rel => exact CmR.mk (p := p + 1) (st := 2) (t := t ++ 45 :: whB c) (r' := r2) (by omega) (by omega) (by omega) HP.out HQ2.out HT3.out HT4.out (HB2.out.setCell (p := ⟨w.heap.size + 1, 4, none⟩) (by simp) _) (by simp; omega) (by omega)
        case measure => simp [intOf]; omega
      ·
        by_cases h62 : c = 62
        ·
          have f62 : (((s[p].toNat : Nat) : Int) == 62) = true := by rw [hx, b_of c 62 62 rfl _ rfl]; simpa using h62
          clear e45 e62 e33 hxc
          have KH : True := trivial
          have HQ2 : Hid (R = (t, p + 1, true)) := by unfold Hid; rw [← HQ.out]; exact cmR_none _ _ _ _ _ (by simp [cmS, h62])
          obtain ⟨c0, c1, c2, c3, c4, c5, c6, c7, c8, c9, fz⟩ := HTt.out.cs
          obtain ⟨d0, d1, d2, d3, d4, d5, d6, d7, d8, d9, dz⟩ := HTr.out.cs
          clear hx HX hwb hwb2 hts KH  h62
          go_wp2
          generalize hW3 : World.setCell _ _ _ = W3
          have hR3 : Tb w.heap.size { kind := 4, text := t } W3 := by rw [← hW3]; exact set10 HTr.out _ _ _ _ _ _ _ _ _ _
          have hB3 : Below w.heap.size w W3 := by rw [← hW3]; exact below_sets HB.out (Nat.le_refl _) _ _ _ _ _ _ _ _ _ _
          refine bodyPost_ret (results_tok rfl rfl hR3) rfl ⟨?_, hB3⟩
          rw [HQ2.out]
          refine tok_end ?_
          show (p : Int) + 1 = ((p + 1 : Nat) : Int)
          omega
        by_cases h33 : c = 33
        ·
          have f62 : (((s[p].toNat : Nat) : Int) == 62) = false := by rw [hx, b_of c 62 62 rfl _ rfl]; simpa using h62
          have f33 : (((s[p].toNat : Nat) : Int) == 33) = true := by rw [hx, b_of c 33 33 rfl _ rfl]; simpa using h33
          clear e45 e62 e33 hxc
          have KH : True := trivial
          have HQ2 : Hid (cmR 5 t (p + 1) r2 = R) := by unfold Hid; rw [← HQ.out]; exact (cmR_some _ _ _ _ _ _ _ (by simp [cmS, h62, h33])).symm
          clear hx HX hwb hwb2 hts KH  h62 h33
          go_wp2
          go_roundw
          case rel => exact CmR.mk (by omega) (by omega) (by omega) HP.out HQ2.out HTt.out HTr.out HB.out (by omega) (by omega)
          case measure => simp [intOf]; omega
        by_cases h45 : c = 45
        ·
          have f45 : (((s[p].toNat : Nat) : Int) == 45) = true := by rw [hx, b_of c 45 45 rfl _ rfl]; simpa using h45
          have f62 : (((s[p].toNat : Nat) : Int) == 62) = false := by rw [hx, b_of c 62 62 rfl _ rfl]; simpa using h62
          have f33 : (((s[p].toNat : Nat) : Int) == 33) = false := by rw [hx, b_of c 33 33 rfl _ rfl]; simpa using h33
          clear e45 e62 e33 hxc
          have KH : True := trivial
          have HQ2 : Hid (cmR 4 (t ++ [45]) (p + 1) r2 = R) := by unfold Hid; rw [← HQ.out]; exact (cmR_some _ _ _ _ _ _ _ (by simp [cmS, h62, h33, h45])).symm
          have EX : Hid ((⟨t.toArray⟩ : ByteArray) ++ ⟨#[45]⟩ = ⟨(t ++ [45]).toArray⟩) := by unfold Hid; exact ByteArray.ext (Array.ext' (by simp))
          have c4 := HTt.out.cs.c4
          have fz := HTt.out.cs.fz
          have HT3 := Lib.hid (HTt.out.setText (t ++ [45]))
          have HT4 := Lib.hid (HTr.out.other (j := 4) (show w.heap.size ≠ w.heap.size + 1 by omega) (.string ⟨(t ++ [45]).toArray⟩))
          clear hx HX hwb hwb2 KH  h62 h33 h45
          go_wp2
          go_roundw
          case rel =>
            rw [EX.out]
            exact CmR.mk (by omega) (by omega) (by omega) HP.out HQ2.out HT3.out HT4.out (HB.out.setCell (p := ⟨w.heap.size + 1, 4, none⟩) (by simp) _) (by simp; omega) (by omega)
          case measure => simp [intOf]; omega
        have f45 : (((s[p].toNat : Nat) : Int) == 45) = false := by rw [hx, b_of c 45 45 rfl _ rfl]; simpa using h45
        have f62 : (((s[p].toNat : Nat) : Int) == 62) = false := by rw [hx, b_of c 62 62 rfl _ rfl]; simpa using h62
        have f33 : (((s[p].toNat : Nat) : Int) == 33) = false := by rw [hx, b_of c 33 33 rfl _ rfl]; simpa using h33
        clear e45 e62 e33 hxc
        have KH : True := trivial
        have HQ2 : Hid (cmR 2 (t ++ 45 :: 45 :: whB c) (p + 1) r2 = R) := by unfold Hid; rw [← HQ.out]; exact (cmR_some _ _ _ _ _ _ _ (by simp [cmS, h62, h33, h45])).symm
        have AD : Hid (∀ w, Calls Tryd.prog 25 #[.string ((⟨t.toArray⟩ : ByteArray) ++ ⟨#[45, 45]⟩), .int .u8 (s[p].toNat : Nat)] w fun e w' => e = .returned (.string ⟨(t ++ 45 :: 45 :: whB c).toArray⟩) ∧ Below w.heap.size w w') := fun w => by
          have := add_calls ((⟨t.toArray⟩ : ByteArray) ++ ⟨#[45, 45]⟩) s[p] (by rw [ByteArray.size_append]; have hz : (⟨#[45, 45]⟩ : ByteArray).size = 2 := rfl; omega) w
          rw [hx] at this ⊢
          exact this.mono fun _ _ h => ⟨h.1.trans (ret_str (by simp)), h.2⟩
        have c4 := HTt.out.cs.c4
        have fz := HTt.out.cs.fz
        have hwc := whB_le c
        clear hx HX hwb hwb2 KH  h62 h33 h45
        go_wp2_with fail
        refine (AD.out _).mono ?_
        rintro e w1 ⟨rfl, hb1⟩
        have hT2 := HTt.out.below hb1 hlt2
        have e4 := hT2.cs.c4
        have ez := hT2.cs.fz
        have HB2 := Lib.hid (HB.out.trans (hb1.mono HB.out.size))
        have HT3 := Lib.hid (hT2.setText (t ++ 45 :: 45 :: whB c))
        have HT4 := Lib.hid ((HTr.out.below hb1 hlt3).other (j := 4) (show w.heap.size ≠ w.heap.size + 1 by omega) (.string ⟨(t ++ 45 :: 45 :: whB c).toArray⟩))
        clear hb1 hT2 c4 fz
        go_wp2
        go_roundw
        case rel => exact CmR.mk (p := p + 1) (st := 2) (t := t ++ 45 :: 45 :: whB c) (r' := r2) (by omega) (by omega) (by omega) HP.out HQ2.out HT3.out HT4.out (HB2.out.setCell (p := ⟨w.heap.size + 1, 4, none⟩) (by simp) _) (by simp; omega) (by omega)
        case measure => simp [intOf]; omega
      ·
        by_cases h45 : c = 45
        ·
          have f45 : (((s[p].toNat : Nat) : Int) == 45) = true := by rw [hx, b_of c 45 45 rfl _ rfl]; simpa using h45
          clear e45 e62 e33 hxc
          have KH : True := trivial
          have HQ2 : Hid (cmR 3 (t ++ [45, 45, 33]) (p + 1) r2 = R) := by unfold Hid; rw [← HQ.out]; exact (cmR_some _ _ _ _ _ _ _ (by simp [cmS, h45])).symm
          have EX : Hid ((⟨t.toArray⟩ : ByteArray) ++ ⟨#[45, 45, 33]⟩ = ⟨(t ++ [45, 45, 33]).toArray⟩) := by unfold Hid; exact ByteArray.ext (Array.ext' (by simp))
          have c4 := HTt.out.cs.c4
          have fz := HTt.out.cs.fz
          have HT3 := Lib.hid (HTt.out.setText (t ++ [45, 45, 33]))
          have HT4 := Lib.hid (HTr.out.other (j := 4) (show w.heap.size ≠ w.heap.size + 1 by omega) (.string ⟨(t ++ [45, 45, 33]).toArray⟩))
          clear hx HX hwb hwb2 KH  h45
          go_wp2
          go_roundw
          case rel =>
            rw [EX.out]
            exact CmR.mk (by omega) (by omega) (by omega) HP.out HQ2.out HT3.out HT4.out (HB.out.setCell (p := ⟨w.heap.size + 1, 4, none⟩) (by simp) _) (by simp; omega) (by omega)
          case measure => simp [intOf]; omega
        by_cases h62 : c = 62
        ·
          have f45 : (((s[p].toNat : Nat) : Int) == 45) = false := by rw [hx, b_of c 45 45 rfl _ rfl]; simpa using h45
          have f62 : (((s[p].toNat : Nat) : Int) == 62) = true := by rw [hx, b_of c 62 62 rfl _ rfl]; simpa using h62
          clear e45 e62 e33 hxc
          have KH : True := trivial
          have HQ2 : Hid (R = (t, p + 1, true)) := by unfold Hid; rw [← HQ.out]; exact cmR_none _ _ _ _ _ (by simp [cmS, h45, h62])
          obtain ⟨c0, c1, c2, c3, c4, c5, c6, c7, c8, c9, fz⟩ := HTt.out.cs
          obtain ⟨d0, d1, d2, d3, d4, d5, d6, d7, d8, d9, dz⟩ := HTr.out.cs
          clear hx HX hwb hwb2 hts KH  h45 h62
          go_wp2
          generalize hW3 : World.setCell _ _ _ = W3
          have hR3 : Tb w.heap.size { kind := 4, text := t } W3 := by rw [← hW3]; exact set10 HTr.out _ _ _ _ _ _ _ _ _ _
          have hB3 : Below w.heap.size w W3 := by rw [← hW3]; exact below_sets HB.out (Nat.le_refl _) _ _ _ _ _ _ _ _ _ _
          refine bodyPost_ret (results_tok rfl rfl hR3) rfl ⟨?_, hB3⟩
          rw [HQ2.out]
          refine tok_end ?_
          show (p : Int) + 1 = ((p + 1 : Nat) : Int)
          omega
        have f45 : (((s[p].toNat : Nat) : Int) == 45) = false := by rw [hx, b_of c 45 45 rfl _ rfl]; simpa using h45
        have f62 : (((s[p].toNat : Nat) : Int) == 62) = false := by rw [hx, b_of c 62 62 rfl _ rfl]; simpa using h62
        clear e45 e62 e33 hxc
        have KH : True := trivial
        have HQ2 : Hid (cmR 2 (t ++ 45 :: 45 :: 33 :: whB c) (p + 1) r2 = R) := by unfold Hid; rw [← HQ.out]; exact (cmR_some _ _ _ _ _ _ _ (by simp [cmS, h45, h62])).symm
        have AD : Hid (∀ w, Calls Tryd.prog 25 #[.string ((⟨t.toArray⟩ : ByteArray) ++ ⟨#[45, 45, 33]⟩), .int .u8 (s[p].toNat : Nat)] w fun e w' => e = .returned (.string ⟨(t ++ 45 :: 45 :: 33 :: whB c).toArray⟩) ∧ Below w.heap.size w w') := fun w => by
          have := add_calls ((⟨t.toArray⟩ : ByteArray) ++ ⟨#[45, 45, 33]⟩) s[p] (by rw [ByteArray.size_append]; have hz : (⟨#[45, 45, 33]⟩ : ByteArray).size = 3 := rfl; omega) w
          rw [hx] at this ⊢
          exact this.mono fun _ _ h => ⟨h.1.trans (ret_str (by simp)), h.2⟩
        have c4 := HTt.out.cs.c4
        have fz := HTt.out.cs.fz
        have hwc := whB_le c
        clear hx HX hwb hwb2 KH  h45 h62
        go_wp2_with fail
        refine (AD.out _).mono ?_
        rintro e w1 ⟨rfl, hb1⟩
        have hT2 := HTt.out.below hb1 hlt2
        have e4 := hT2.cs.c4
        have ez := hT2.cs.fz
        have HB2 := Lib.hid (HB.out.trans (hb1.mono HB.out.size))
        have HT3 := Lib.hid (hT2.setText (t ++ 45 :: 45 :: 33 :: whB c))
        have HT4 := Lib.hid ((HTr.out.below hb1 hlt3).other (j := 4) (show w.heap.size ≠ w.heap.size + 1 by omega) (.string ⟨(t ++ 45 :: 45 :: 33 :: whB c).toArray⟩))
        clear hb1 hT2 c4 fz
        go_wp2
        go_roundw
        case rel => exact CmR.mk (p := p + 1) (st := 2) (t := t ++ 45 :: 45 :: 33 :: whB c) (r' := r2) (by omega) (by omega) (by omega) HP.out HQ2.out HT3.out HT4.out (HB2.out.setCell (p := ⟨w.heap.size + 1, 4, none⟩) (by simp) _) (by simp; omega) (by omega)
        case measure => simp [intOf]; omega
end Go.Proofs.YtileclmmobkcaaaDoor
