/-
  The walk of lacunalaw19.TmplPrints. The condition: the listed variables read as they were laid; MaxLen holds some number; lists and texts of at most 2 to the 47th bytes.
-/
import Derived.Test.YtdgcdjpjnhlihaaGreatDoorMgTzb
import Derived.Test.YtdgcdjpjnhlihaaGreatDoorMgTqb
import Derived.Test.YtdgcdjpjnhlihaaGreatDoorMgTc0
set_option linter.unusedSimpArgs false
set_option linter.unusedVariables false
namespace Go.Proofs.YtdgcdjpjnhlihaaGreatDoor
open Go.RowKit Go.Shelf
attribute [local go_sem ↓] Go.wp_at_zero Go.wp_at_succ

set_option maxRecDepth 100000 in
set_option maxHeartbeats 20000000 in
theorem tmplPrints_walk (t : Tm) (vm vd : Value) (w : World) (hi : TmIn t vm vd w) (hg : Gd w) (he : Eg w) : Calls Tryz.prog 3 #[.agg #[vm, vd]] w fun e w' => e = .returned (.bool true) ∧ Below w.heap.size w w' := by
  have HB0 : Hid (Below w.heap.size w (w.alloc (.cells #[vm, vd] 25))) := (Below.refl w.heap.size w).alloc (Nat.le_refl _) _
  have HT0 : Hid ((w.alloc (.cells #[vm, vd] 25)).heap[w.heap.size]? = some (.cells #[vm, vd] 25 (0, 0))) := heap_alloc_new w _
  have HS0 : Hid ((w.alloc (.cells #[vm, vd] 25)).heap.size = w.heap.size + 1) := by unfold Hid; simp
  have WK : Hid (∀ W, Below w.heap.size w W → Calls Tryz.prog 8 #[] W fun e w' => e = .returned (.bool true) ∧ Below W.heap.size W w') := fun W hW => works_calls W (hg.below hW) (he.below hW)
  have WG : Hid (∀ W, Below w.heap.size w W → Calls Tryz.prog 9 #[.agg #[vm, vd], .int .i64 16384] W (WgTP 16384 t W)) := fun W hW => weighTemplate_calls t 16384 (Nat.le_refl _) hi.wide _ vm vd W (hi.mainAt hW) (hi.defsAt hW)
  have CP : Hid (TmZ t → ∀ W, Below w.heap.size w W → Calls Tryz.prog 10 #[.agg #[vm, vd]] W (CpTP t W)) := fun hz W hW => copyTemplate_calls t hz _ _ vm vd W (hi.mainAt hW) (hi.defsAt hW)
  have PRR : Hid (TmZ t → ∀ W, Below w.heap.size w W → Calls Tryz.prog 13 #[.agg #[vm, vd]] W (PrintR t W)) := fun hz W hW => printRef_calls t hz vm vd W (hi.mainAt hW) (hi.defsAt hW)
  have CKR : Hid (TmZ t → ∀ W, Below w.heap.size w W → Calls Tryz.prog 15 #[.agg #[vm, vd]] W (CheckR t W)) := fun hz W hW => checkR_calls t hz vm vd W (hi.mainAt hW) (hi.defsAt hW)
  have HI := Lib.hid hi
  have HG := Lib.hid hg
  have HWD := Lib.hid hi.wide
  obtain ⟨am, cm, rfl, -⟩ := hi.main
  obtain ⟨a, c, rfl, -⟩ := hi.defs
  clear hi hg he
  go_enter Tryz.func3, Tryz.ntmps3
  go_wp2_with fail
  generalize hWW : World.alloc w _ = w0 at *
  clear hWW
  have HTC : Hid (∀ W, Below (w.heap.size + 1) w0 W → W.cell? ⟨w.heap.size, 0, none⟩ = some (.slice am t.main.len cm) ∧ W.cell? ⟨w.heap.size, 1, none⟩ = some (.slice a t.defs.length c) ∧ Below w.heap.size w W ∧ w.heap.size + 1 ≤ W.heap.size) := fun W hW =>
    ⟨by rw [cell_of_heap' ((hW.block _ (by omega)).trans HT0.out)]; rfl, by rw [cell_of_heap' ((hW.block _ (by omega)).trans HT0.out)]; rfl, HB0.out.trans (hW.mono (by omega)), by have := hW.size; rw [HS0.out] at this; exact this⟩
  refine (WK.out _ HB0.out).mono ?_
  rintro e w1 ⟨rfl, hb1⟩
  have HW1 : Hid (Below (w.heap.size + 1) w0 w1) := hb1.mono (by rw [HS0.out]; exact Nat.le_refl _)
  clear hb1
  obtain ⟨t0, t1, hb1, hs1⟩ := HTC.out _ HW1.out
  have HB1 := Lib.hid hb1
  clear hb1
  go_wp2_with fail
  refine (WG.out _ HB1.out).mono ?_
  rintro e w2 ⟨m, rfl, hm, hb2⟩
  have HW2 : Hid (Below (w.heap.size + 1) w0 w2) := HW1.out.trans (hb2.mono hs1)
  have HM := Lib.hid hm
  clear hb2 hm t0 t1
  obtain ⟨t0, t1, hb2, hs2⟩ := HTC.out _ HW2.out
  have HB2 := Lib.hid hb2
  clear hb2
  by_cases hbig : 16384 < m
  · have hbig' : (16384 : Int) < (m : Int) := by omega
    clear hbig
    go_wp2_with fail
    go_ret
    exact ⟨rfl, HB2.out⟩
  have hbig' : ¬ (16384 : Int) < (m : Int) := by omega
  have HZ : Hid (TmZ t) := tmZ_of t HWD.out (by have := HM.out (by omega); omega)
  have CP1 := Lib.hid (CP.out HZ.out _ HB2.out)
  clear hbig
  go_wp2_with fail
  refine CP1.out.mono ?_
  rintro e w3 ⟨xm, xd, rfl, hxm, hxd, hb3⟩
  have HXM := Lib.hid hxm
  have HXD := Lib.hid hxd
  have HB3 : Hid (Below w.heap.size w w3) := HB2.out.trans (hb3.mono HB2.out.size)
  have HW3 : Hid (Below (w.heap.size + 1) w0 w3) := HW2.out.trans (hb3.mono hs2)
  obtain ⟨xam, xcm, rfl, -⟩ := hxm
  obtain ⟨xa, xc, rfl, -⟩ := hxd
  clear hb3 CP1 t0 t1 hs2
  obtain ⟨t0, t1, -, hs3⟩ := HTC.out _ HW3.out
  -- the copy's own block
  have HA4 : Hid (Below w3.heap.size w3 (w3.alloc (.cells #[.slice xam t.main.len xcm, .slice xa t.defs.length xc] 25))) := (Below.refl _ w3).alloc (Nat.le_refl _) _
  have HT4 : Hid ((w3.alloc (.cells #[.slice xam t.main.len xcm, .slice xa t.defs.length xc] 25)).heap[w3.heap.size]? = some (.cells #[.slice xam t.main.len xcm, .slice xa t.defs.length xc] 25 (0, 0))) := heap_alloc_new w3 _
  have HS4 : Hid ((w3.alloc (.cells #[.slice xam t.main.len xcm, .slice xa t.defs.length xc] 25)).heap.size = w3.heap.size + 1) := by unfold Hid; simp
  go_upto_region 7 with (fail)
  generalize hWW : World.alloc w3 _ = w4 at *
  clear hWW t0 t1
  have HXC : Hid (∀ W, Below (w3.heap.size + 1) w4 W → W.cell? ⟨w3.heap.size, 0, none⟩ = some (.slice xam t.main.len xcm) ∧ W.cell? ⟨w3.heap.size, 1, none⟩ = some (.slice xa t.defs.length xc) ∧ W.cell? ⟨w.heap.size, 0, none⟩ = some (.slice am t.main.len cm) ∧ W.cell? ⟨w.heap.size, 1, none⟩ = some (.slice a t.defs.length c) ∧ Below w.heap.size w W ∧
      Parts (· < W.heap.size) W (.slice xam t.main.len xcm) t.main ∧ Defs (· < W.heap.size) W (.slice xa t.defs.length xc) t.defs ∧ w3.heap.size + 1 ≤ W.heap.size) := fun W hW => by
    have hW3 : Below w3.heap.size w3 W := HA4.out.trans (hW.mono (by omega))
    obtain ⟨q0, q1, q2, -⟩ := HTC.out W (HW3.out.trans (hW3.mono hs3))
    exact ⟨by rw [cell_of_heap' ((hW.block _ (by omega)).trans HT4.out)]; rfl, by rw [cell_of_heap' ((hW.block _ (by omega)).trans HT4.out)]; rfl, q0, q1, q2,
      (HXM.out.kept (fun b hb => hW3.block b hb.2)).mono (fun b hb => Nat.lt_of_lt_of_le hb.2 hW3.size), (HXD.out.kept (fun b hb => hW3.block b hb.2)).mono (fun b hb => Nat.lt_of_lt_of_le hb.2 hW3.size), by have := hW.size; rw [HS4.out] at this; exact this⟩
  obtain ⟨y0, y1, t0, t1, hb4, hp4, hd4, hs4⟩ := HXC.out _ (Below.refl _ _)
  have CK1 : Hid (Calls Tryz.prog 11 #[.agg #[.slice xam t.main.len xcm, .slice xa t.defs.length xc]] w4 (CheckR t w4)) := check_calls t HZ.out _ _ w4 (HG.out.below hb4) hp4 hd4
  clear hb4 hp4 hd4
  go_wp2_with fail
  refine CK1.out.mono ?_
  rintro e w5 ⟨rfl, hb5⟩
  have HW5 : Hid (Below (w3.heap.size + 1) w4 w5) := hb5.mono hs4
  clear hb5 CK1 y0 y1 t0 t1
  obtain ⟨y0, y1, t0, t1, hb5, hp5, hd5, hs5⟩ := HXC.out _ HW5.out
  have PR1 : Hid (Calls Tryz.prog 12 #[.agg #[.slice xam t.main.len xcm, .slice xa t.defs.length xc]] w5 (PrintR t w5)) := print_calls t HZ.out _ _ w5 (HG.out.below hb5) hp5 hd5
  clear hb5 hp5 hd5 hs4
  obtain ⟨n, hn⟩ : ∃ n, t.check = n := ⟨_, rfl⟩
  obtain ⟨ps, hps⟩ : ∃ ps, printS t = ps := ⟨_, rfl⟩
  have CKR1 : Hid (∀ W, Below w.heap.size w W → Calls Tryz.prog 15 #[.agg #[.slice am t.main.len cm, .slice a t.defs.length c]] W fun e w' => e = .returned (.int .i64 (n : Nat)) ∧ Below W.heap.size W w') := fun W hW => by
    have := CKR.out HZ.out W hW; unfold CheckR at this; rw [hn] at this; exact this
  have PRR1 : Hid (∀ W, Below w.heap.size w W → Calls Tryz.prog 13 #[.agg #[.slice am t.main.len cm, .slice a t.defs.length c]] W fun e w' => e = .returned (.tuple #[.string ps, .int .i64 (n : Nat)]) ∧ Below W.heap.size W w') := fun W hW => by
    have := PRR.out HZ.out W hW; unfold PrintR at this; rw [hn, hps] at this; exact this
  have PR2 : Hid (Calls Tryz.prog 12 #[.agg #[.slice xam t.main.len xcm, .slice xa t.defs.length xc]] w5 fun e w' => e = .returned (.tuple #[.string ps, .int .i64 (n : Nat)]) ∧ Below w5.heap.size w5 w') := by
    have := PR1.out; unfold PrintR at this; rw [hn, hps] at this; exact this
  rw [hn]
  clear hn hps PR1
  go_wp2_with fail
  refine PR2.out.mono ?_
  rintro e w6 ⟨rfl, hb6⟩
  have HW6 : Hid (Below (w3.heap.size + 1) w4 w6) := HW5.out.trans (hb6.mono hs5)
  clear hb6 PR2 y0 y1 t0 t1 hs5
  obtain ⟨y0, y1, t0, t1, hb6, -, -, hs6⟩ := HXC.out _ HW6.out
  have PRR2 := Lib.hid (PRR1.out _ hb6)
  clear hb6
  go_wp2_with fail
  refine PRR2.out.mono ?_
  rintro e w7 ⟨rfl, hb7⟩
  have HW7 : Hid (Below (w3.heap.size + 1) w4 w7) := HW6.out.trans (hb7.mono hs6)
  clear hb7 PRR2 y0 y1 t0 t1 hs6
  obtain ⟨y0, y1, t0, t1, hb7, hp7, hd7, hs7⟩ := HXC.out _ HW7.out
  have SM : Hid (Calls Tryz.prog 14 #[.agg #[.slice xam t.main.len xcm, .slice xa t.defs.length xc], .agg #[.slice am t.main.len cm, .slice a t.defs.length c], .bool true] w7 fun e w' => e = .returned (.bool true) ∧ Below w7.heap.size w7 w') :=
    sameTemplate_calls t t rfl true (fun _ => rfl) _ _ _ _ _ _ w7 HZ.out hp7 (HI.out.mainAt hb7) hd7 (HI.out.defsAt hb7)
  clear hb7 hp7 hd7
  go_wp2_with fail
  refine SM.out.mono ?_
  rintro e w8 ⟨rfl, hb8⟩
  have HW8 : Hid (Below (w3.heap.size + 1) w4 w8) := HW7.out.trans (hb8.mono hs7)
  clear hb8 y0 y1 t0 t1 hs7
  obtain ⟨y0, y1, t0, t1, hb8, -, -, hs8⟩ := HXC.out _ HW8.out
  have CKR2 := Lib.hid (CKR1.out _ hb8)
  have HB8 := Lib.hid hb8
  clear hb8
  go_wp2_with fail
  refine CKR2.out.mono ?_
  rintro e w9 ⟨rfl, hb9⟩
  have HB9 : Hid (Below w.heap.size w w9) := HB8.out.trans (hb9.mono HB8.out.size)
  clear hb9 y0 y1 t0 t1 CKR2
  go_wp2_with fail
  go_ret
  exact ⟨rfl, HB9.out⟩
end Go.Proofs.YtdgcdjpjnhlihaaGreatDoor
