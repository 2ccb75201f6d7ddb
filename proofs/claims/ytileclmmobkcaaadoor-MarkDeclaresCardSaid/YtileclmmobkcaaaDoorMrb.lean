/-
  Contracts of the document's answer (lacunaref04): Bogus. The condition: the text takes at most 2 to the 28th bytes.
-/
import Derived.Test.YtileclmmobkcaaaDoorMra
import Derived.Test.YtileclmmobkcaaaDoorMdj
set_option linter.unusedVariables false
namespace Go.Proofs.YtileclmmobkcaaaDoor
open Go.RowKit Go.Shelf

theorem Tb.setText {b : Nat} {t : Tk} {w : World} (h : Tb b t w) (x : List UInt8) : Tb b { t with text := x } (w.setCell ⟨b, 4, none⟩ (.string ⟨x.toArray⟩)) := by
  unfold Tb tkCells at h ⊢
  simp [World.setCell, Array.getElem?_modify, h]
theorem Tb.other {b b' j : Nat} {t : Tk} {w : World} (h : Tb b t w) (hne : b ≠ b') (v : Value) : Tb b t (w.setCell ⟨b', j, none⟩ v) := (Below.heap_setCell _ _ _ _ hne).trans h
theorem Tb.drew {b : Nat} {t : Tk} {w : World} (h : Tb b t w) : Tb b t w.drew := h
theorem Tb.alloc {b : Nat} {t : Tk} {w : World} (h : Tb b t w) (o : Obj) : Tb b t (w.alloc o) := (Below.heap_alloc w o b h.lt).trans h

set_option maxRecDepth 100000 in
theorem bogusR_out (s : ByteArray) (at_ : Int) (h : at_ < 0 ∨ (s.size : Int) < at_) (w : World) :
    Calls Tryd.prog 12 #[.string s, .int .i64 at_] w (TR w { kind := 0 } 0 false) := by
  rcases h with h | h
  · go_enter Tryd.func12, Tryd.ntmps12
    go_wp2
    exact bodyPost_ret (v := .tuple #[.agg (tkCells { kind := 0 }), .int .i64 0, .bool false]) (by simp [results, Tryd.results12, go_sem]; rfl) rfl ⟨rfl, (Below.refl _ w).alloc (Nat.le_refl _) _⟩
  · have h2 : ¬ at_ < 0 := by omega
    go_enter Tryd.func12, Tryd.ntmps12
    go_wp2
    exact bodyPost_ret (v := .tuple #[.agg (tkCells { kind := 0 }), .int .i64 0, .bool false]) (by simp [results, Tryd.results12, go_sem]; rfl) rfl ⟨rfl, (Below.refl _ w).alloc (Nat.le_refl _) _⟩

theorem below_of_drew {w w' : World} (h : Below w.drew.heap.size w.drew w') : Below w.heap.size w w' := ⟨h.os, h.tape, h.output, h.size, h.block⟩
theorem tr_of {w w' : World} {x y : Tk × Nat × Bool} (h : y = x) {e : Ending} (he : e = .returned (.tuple #[.agg (tkCells x.1), .int .i64 (x.2.1 : Nat), .bool x.2.2])) (hb : Below w.heap.size w w') : TR w y.1 (y.2.1 : Nat) y.2.2 e w' := by
  rw [h]; exact ⟨he, hb⟩

set_option maxRecDepth 100000 in
set_option maxHeartbeats 2000000 in
theorem bogusR_in (s : ByteArray) (n : Nat) (r : List UInt8) (hs : s.size ≤ 268435456) (hr : Ps s n r) (w : World) :
    Calls Tryd.prog 12 #[.string s, .int .i64 n] w (TR w { kind := 4, text := (bgR [] n r).1 } ((bgR [] n r).2.1 : Nat) (bgR [] n r).2.2) := by
  have hn := hr.le
  have hn0 : ¬ ((n : Int) < 0) := by omega
  have hn1 : ¬ ((s.size : Int) < n) := by omega
  have HR := Lib.hid hr
  obtain ⟨R, hR⟩ : ∃ R, bgR [] n r = R := ⟨_, rfl⟩
  rw [hR]
  have HRR := Lib.hid hR
  clear hr hR
  go_enter Tryd.func12, Tryd.ntmps12
  have HT0 := Lib.hid (Tb.new w)
  have hb0 : Below w.heap.size w (w.alloc (.cells #[.int .u8 0, .string ⟨#[]⟩, .slice none 0 0, .bool false, .string ⟨#[]⟩, .string ⟨#[]⟩, .string ⟨#[]⟩, .bool false, .bool false, .bool false] 26)) := (Below.refl _ w).alloc (Nat.le_refl _) _
  have HB0 := Lib.hid hb0
  clear hb0
  go_wp2
  generalize hW1 : World.alloc _ _ = W1
  have hs0 : (w.alloc (.cells #[.int .u8 0, .string ⟨#[]⟩, .slice none 0 0, .bool false, .string ⟨#[]⟩, .string ⟨#[]⟩, .string ⟨#[]⟩, .bool false, .bool false, .bool false] 26)).heap.size = w.heap.size + 1 := by simp
  have hT1 : Tb (w.heap.size + 1) { kind := 4 } W1 := by
    have := heap_alloc_new (w.alloc (.cells #[.int .u8 0, .string ⟨#[]⟩, .slice none 0 0, .bool false, .string ⟨#[]⟩, .string ⟨#[]⟩, .string ⟨#[]⟩, .bool false, .bool false, .bool false] 26)) (.cells (tkCells { kind := 4 }) 26)
    rw [hs0] at this
    rw [← hW1]; exact this
  have hT0 : Tb w.heap.size { kind := 0 } W1 := by rw [← hW1]; exact HT0.out.alloc _
  have hB1 : Below w.heap.size w W1 := by rw [← hW1]; exact HB0.out.alloc HB0.out.size _
  clear hW1 HT0 HB0 hs0
  go_loopw [8] (fun v wr => ∃ (p : Nat) (t r' : List UInt8), v = .int .i64 p ∧ p ≤ s.size ∧ Ps s p r' ∧ Hid (bgR t p r' = R) ∧ Tb (w.heap.size + 1) { kind := 4, text := t } wr ∧ Tb w.heap.size { kind := 0 } wr ∧ Below w.heap.size w wr ∧ t.length ≤ 3 * p) (fun v _ => s.size - (intOf v).toNat)
  case atStart => exact ⟨n, [], r, rfl, hn, HR.out, HRR.out, hT1, hT0, hB1, by simp⟩
  case round =>
    obtain ⟨p, t, r', rfl, hp, hps, HQ, hTt, hTr, hB, htl⟩ := hrel
    have HB := Lib.hid hB
    have HTt := Lib.hid hTt
    have HTr := Lib.hid hTr
    obtain ⟨c0, c1, c2, c3, c4, c5, c6, c7, c8, c9, fz⟩ := hTt.cs
    have hlt2 := hTt.lt
    match r', hps, HQ with
    | [], hps, HQ =>
      obtain rfl := hps.nil
      have hpp : ¬ ((s.size : Int) < s.size) := by omega
      obtain ⟨d0, d1, d2, d3, d4, d5, d6, d7, d8, d9, dz⟩ := hTr.cs
      clear hT1 hT0 hB1 hTt hTr hB hps
      go_wp2
      generalize hW3 : World.setCell _ _ _ = W3
      have hR3 : Tb w.heap.size { kind := 4, text := t } W3 := by rw [← hW3]; exact set10 HTr.out _ _ _ _ _ _ _ _ _ _
      have hB3 : Below w.heap.size w W3 := by rw [← hW3]; exact below_sets HB.out (Nat.le_refl _) _ _ _ _ _ _ _ _ _ _
      refine bodyPost_ret (results_tok rfl rfl hR3) rfl ⟨?_, hB3⟩
      rw [← HQ.out]; rfl
    | c :: r2, hps, HQ =>
      obtain ⟨hpl, hx, hps2⟩ := hps.cons
      have hplt : (p : Int) < s.size := by omega
      have HX := Lib.hid hx
      have HP := Lib.hid hps2
      have hcc : (s[p].toNat : Int) < 256 := by have := s[p].toNat_lt; omega
      by_cases hc : c = 62
      · have hb : ((s[p].toNat : Int) == 62) = true := by rw [hx, hc]; rfl
        have HQ2 : Hid (R = (t, p + 1, true)) := by unfold Hid; rw [← HQ.out, bgR, if_pos hc]
        obtain ⟨d0, d1, d2, d3, d4, d5, d6, d7, d8, d9, dz⟩ := hTr.cs
        clear hT1 hT0 hB1 hTt hTr hB hps hx hps2 hc
        go_wp2
        generalize hW3 : World.setCell _ _ _ = W3
        have hR3 : Tb w.heap.size { kind := 4, text := t } W3 := by rw [← hW3]; exact set10 HTr.out _ _ _ _ _ _ _ _ _ _
        have hB3 : Below w.heap.size w W3 := by rw [← hW3]; exact below_sets HB.out (Nat.le_refl _) _ _ _ _ _ _ _ _ _ _
        refine bodyPost_ret (results_tok rfl rfl hR3) rfl ⟨?_, hB3⟩
        rw [HQ2.out]
        refine tok_end ?_
        show (p : Int) + 1 = ((p + 1 : Nat) : Int)
        omega
      · have hb : ((s[p].toNat : Int) == 62) = false := by
          have := byte_eq c 62
          rw [hx]
          rw [show ((62 : UInt8).toNat : Int) = 62 from rfl] at this
          rw [this]; simpa using hc
        have HQ2 : Hid (bgR (t ++ whB s[p]) (p + 1) r2 = R) := by unfold Hid; rw [← HQ.out, bgR, if_neg hc, hx]
        have hts := size_arr t
        have hwb := whB_le s[p]
        clear hT1 hT0 hB1 hTt hTr hB hps hx hps2 hc
        go_wp2_with fail
        go_region_with (go_at_call 25; refine (add_calls ⟨t.toArray⟩ s[p] (by omega) _).mono ?_; rintro e w1 ⟨rfl, hb1⟩; have e4 := (hb1.cell (p := ⟨w.heap.size + 1, 4, none⟩) hlt2).trans c4; have ez := fun j => (hb1.frozen (p := ⟨w.heap.size + 1, j, none⟩) hlt2).trans (fz j))
        all_goals
          have hb1 := below_of_drew hb1
          have hT2 := HTt.out.below hb1 hlt2
          have HB2 := Lib.hid (HB.out.trans (hb1.mono HB.out.size))
          have HT3 := Lib.hid (hT2.setText (t ++ whB s[p]))
          have HT4 := Lib.hid ((HTr.out.below hb1 HTr.out.lt).other (j := 4) (show w.heap.size ≠ w.heap.size + 1 by omega) (.string ⟨(t ++ whB s[p]).toArray⟩))
          clear hb1 hT2
          go_wp2
          go_roundw
          case rel => exact ⟨p + 1, t ++ whB s[p], r2, by go_num, by omega, HP.out, HQ2.out, HT3.out, HT4.out, HB2.out.setCell (p := ⟨w.heap.size + 1, 4, none⟩) (by simp) _, by rw [List.length_append]; omega⟩
          case measure => simp [intOf]; omega
end Go.Proofs.YtileclmmobkcaaaDoor
