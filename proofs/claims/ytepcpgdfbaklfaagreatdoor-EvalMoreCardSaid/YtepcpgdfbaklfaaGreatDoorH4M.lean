/-
  The contract of eval.Run. The condition: sizes of at most 2 to the 24th; the tables read as they were laid.
-/
import Derived.Test.YtepcpgdfbaklfaaGreatDoorMgG9
import Derived.Test.YtepcpgdfbaklfaaGreatDoorMgH1
import Derived.Test.YtepcpgdfbaklfaaGreatDoorTk2M
import Derived.Test.YtepcpgdfbaklfaaGreatDoorMgTs0
set_option linter.unusedSimpArgs false
set_option linter.unusedVariables false
namespace Go.Proofs.YtepcpgdfbaklfaaGreatDoor
open Go.RowKit Go.Shelf Ev
attribute [local go_sem] Oper.semAt_some

set_option maxRecDepth 100000 in
set_option maxHeartbeats 40000000 in
theorem run_calls (t : Tm) (hz : TmZ t) (v : Va) (hsv : Va.sm v) (fuel calls : Int) (am ad a1 a2 : Option Addr) (cm cd c1 c2 : Nat) (w : World) (hg : Gd w) (hp : Parts (· < w.heap.size) w (.slice am t.main.len cm) t.main) (hd : Defs (· < w.heap.size) w (.slice ad t.defs.length cd) t.defs) (hv : ValS (· < w.heap.size) w v a1 c1 a2 c2) :
    Calls Tryz.prog 12 #[.agg #[.slice am t.main.len cm, .slice ad t.defs.length cd], .agg #[.int .u8 (v.h.kind : Nat), .bool v.h.b, .int .i64 v.h.n, .int .u64 (v.h.bits : Nat), .string v.h.text, .slice a1 v.h.keys.length c1, .slice a2 v.items.len c2], .int .i64 fuel, .int .i64 calls] w (RunR (Ev.runT t v fuel calls) w) := by
  have hmf : ∀ (fn : Fn) (first cap : Array Value) (w : World), (Instr.makeFunc fn first cap).run Tryz.prog w = .ok (.func fn first cap) w := fun _ _ _ _ => rfl
  have CC : Hid (∀ W, Below w.heap.size w W → Calls Tryz.prog 22 #[.agg #[.slice am t.main.len cm, .slice ad t.defs.length cd]] W (CheckR t W)) := fun W hW =>
    check_calls t hz _ _ W (hg.belowB hg.glB hW) ((hp.kept (Kept.of_below hW)).mono (fun b hb => Nat.lt_of_lt_of_le hb hW.size)) ((hd.kept (Kept.of_below hW)).mono (fun b hb => Nat.lt_of_lt_of_le hb hW.size))
  have JC : Hid (∀ W, Below w.heap.size w W → Calls Tryz.prog 29 #[.agg #[.int .u8 (v.h.kind : Nat), .bool v.h.b, .int .i64 v.h.n, .int .u64 (v.h.bits : Nat), .string v.h.text, .slice a1 v.h.keys.length c1, .slice a2 v.items.len c2]] W fun e w' => e = .returned (.int .i64 (chkX v : Nat)) ∧ Below W.heap.size W w') := fun W hW =>
    jcheck_calls v (· < w.heap.size) a1 a2 c1 c2 W hsv (hv.kept (Kept.of_below hW))
  have HZ := Lib.hid hz
  have HSV := Lib.hid hsv
  have HP := Lib.hid hp
  have HD := Lib.hid hd
  have HV := Lib.hid hv
  clear hz hsv hg hp hd hv
  refine calls_at 5 Tryz.func12 rfl ?_
  intro b hbf hbr
  have HBF := Lib.hid hbf
  clear hbf
  simp only [Tryz.ntmps12, List.size_toArray, List.length_cons, List.length_nil, Nat.reduceAdd, Nat.reduceSub, Array.replicate_succ, Array.replicate_zero, List.push_toArray, List.append_toArray, List.nil_append, List.cons_append]
  refine WpAt.seq 5 hbr ?_
  intro K hK
  have HK := Lib.hid hK
  clear hK
  have HT : Hid (∀ W0, (((((w.alloc (.cells #[.slice am t.main.len cm, .slice ad t.defs.length cd] 25)).alloc (.cells #[.int .u8 (v.h.kind : Nat), .bool v.h.b, .int .i64 v.h.n, .int .u64 (v.h.bits : Nat), .string v.h.text, .slice a1 v.h.keys.length c1, .slice a2 v.items.len c2] 31)).alloc (.cells #[.slice none 0 0] 36)).alloc (.cells #[.int .i64 0] 37)).alloc (.cells #[.int .i64 0] 3)) = W0 →
      Below w.heap.size w W0 ∧ W0.heap.size = w.heap.size + 5 ∧ W0.heap[w.heap.size]? = some (.cells #[.slice am t.main.len cm, .slice ad t.defs.length cd] 25 (0, 0)) ∧ W0.heap[w.heap.size + 1]? = some (.cells #[.int .u8 (v.h.kind : Nat), .bool v.h.b, .int .i64 v.h.n, .int .u64 (v.h.bits : Nat), .string v.h.text, .slice a1 v.h.keys.length c1, .slice a2 v.items.len c2] 31 (0, 0)) ∧ Three (w.heap.size + 2) (.slice none 0 0) (.int .i64 0) (.int .i64 0) W0) := by
    rintro W0 rfl
    have n0 := heap_alloc_new w (.cells #[.slice am t.main.len cm, .slice ad t.defs.length cd] 25)
    have n1 := heap_alloc_new (w.alloc (.cells #[.slice am t.main.len cm, .slice ad t.defs.length cd] 25)) (.cells #[.int .u8 (v.h.kind : Nat), .bool v.h.b, .int .i64 v.h.n, .int .u64 (v.h.bits : Nat), .string v.h.text, .slice a1 v.h.keys.length c1, .slice a2 v.items.len c2] 31)
    have n2 := heap_alloc_new ((w.alloc (.cells #[.slice am t.main.len cm, .slice ad t.defs.length cd] 25)).alloc (.cells #[.int .u8 (v.h.kind : Nat), .bool v.h.b, .int .i64 v.h.n, .int .u64 (v.h.bits : Nat), .string v.h.text, .slice a1 v.h.keys.length c1, .slice a2 v.items.len c2] 31)) (.cells #[.slice none 0 0] 36)
    have n3 := heap_alloc_new (((w.alloc (.cells #[.slice am t.main.len cm, .slice ad t.defs.length cd] 25)).alloc (.cells #[.int .u8 (v.h.kind : Nat), .bool v.h.b, .int .i64 v.h.n, .int .u64 (v.h.bits : Nat), .string v.h.text, .slice a1 v.h.keys.length c1, .slice a2 v.items.len c2] 31)).alloc (.cells #[.slice none 0 0] 36)) (.cells #[.int .i64 0] 37)
    have n4 := heap_alloc_new ((((w.alloc (.cells #[.slice am t.main.len cm, .slice ad t.defs.length cd] 25)).alloc (.cells #[.int .u8 (v.h.kind : Nat), .bool v.h.b, .int .i64 v.h.n, .int .u64 (v.h.bits : Nat), .string v.h.text, .slice a1 v.h.keys.length c1, .slice a2 v.items.len c2] 31)).alloc (.cells #[.slice none 0 0] 36)).alloc (.cells #[.int .i64 0] 37)) (.cells #[.int .i64 0] 3)
    simp only [World.size_alloc, Nat.add_assoc, Nat.reduceAdd] at n1 n2 n3 n4
    refine ⟨(((((Below.refl _ w).alloc (Nat.le_refl _) _).alloc (by simp) _).alloc (by simp <;> omega) _).alloc (by simp <;> omega) _).alloc (by simp <;> omega) _, by simp, ?_, ?_, ⟨?_, ?_, n4⟩⟩
    · exact (Below.heap_alloc _ _ _ (by simp <;> omega)).trans ((Below.heap_alloc _ _ _ (by simp <;> omega)).trans ((Below.heap_alloc _ _ _ (by simp <;> omega)).trans ((Below.heap_alloc _ _ _ (by simp)).trans n0)))
    · exact (Below.heap_alloc _ _ _ (by simp <;> omega)).trans ((Below.heap_alloc _ _ _ (by simp <;> omega)).trans ((Below.heap_alloc _ _ _ (by simp)).trans n1))
    · exact (Below.heap_alloc _ _ _ (by simp <;> omega)).trans ((Below.heap_alloc _ _ _ (by simp)).trans n2)
    · exact (Below.heap_alloc _ _ _ (by simp)).trans n3
  gi_wp2_with fail
  try simp only [Nat.add_assoc, Nat.reduceAdd]
  generalize hWW : World.alloc (World.alloc (World.alloc (World.alloc (World.alloc w _) _) _) _) _ = W0 at *
  obtain ⟨hB0, hz0, hT0, hV0, hR0⟩ := HT.out W0 rfl
  clear hWW HT
  have HB0 := Lib.hid hB0
  have HT0 := Lib.hid hT0
  have HV0 := Lib.hid hV0
  have HR0 := Lib.hid hR0
  clear hB0 hR0 hV0
  refine HK.out _ _ (WpAt.seq 5 hbr ?_)
  clear HK K
  intro K hK
  have HK := Lib.hid hK
  clear hK
  have t0 : W0.cell? ⟨w.heap.size, 0, none⟩ = some (.slice am t.main.len cm) := by rw [cell_of_heap' hT0]; rfl
  have t1 : W0.cell? ⟨w.heap.size, 1, none⟩ = some (.slice ad t.defs.length cd) := by rw [cell_of_heap' hT0]; rfl
  clear hT0
  gi_wp2_with fail
  refine ⟨trivial, (callsIn_wide.2 (CC.out _ HB0.out)).mono ?_⟩
  rintro e w1 ⟨rfl, hb1⟩
  have HB1 : Hid (Below w.heap.size w w1) := HB0.out.trans (hb1.mono (by omega))
  have HR1 := Lib.hid (HR0.out.below hb1 (by omega))
  have HV1 : Hid (w1.heap[w.heap.size + 1]? = some (.cells #[.int .u8 (v.h.kind : Nat), .bool v.h.b, .int .i64 v.h.n, .int .u64 (v.h.bits : Nat), .string v.h.text, .slice a1 v.h.keys.length c1, .slice a2 v.items.len c2] 31 (0, 0))) := (hb1.block _ (by omega)).trans HV0.out
  have HT1 : Hid (w1.heap[w.heap.size]? = some (.cells #[.slice am t.main.len cm, .slice ad t.defs.length cd] 25 (0, 0))) := (hb1.block _ (by omega)).trans HT0.out
  have hz1 : w.heap.size + 5 ≤ w1.heap.size := by have := hb1.size; omega
  clear hb1 t0 t1 hz0
  obtain ⟨r0, r1, r2, fl, fe, fa, -⟩ := HR1.out.cells
  by_cases hc : t.check = 0
  rotate_left
  · have hcb : ((t.check : Int) != 0) = true := by
      have : ((t.check : Int) == 0) = false := beq_eq_false_iff_ne.2 (by omega)
      simp only [bne, this]; rfl
    have HRT : Hid (Ev.runT t v fuel calls = ([], t.check, 0)) := by unfold Hid Ev.runT; rw [if_pos hc]
    clear hc
    gi_wp2_with fail
    show LeavesInM _ _ _ _ _ _ [] _ _
    rw [HRT.out]
    refine run_out0 (L := w.heap.size + 2) rfl rfl rfl (HR1.out.set _ _ _) ?_
    exact ⟨HB1.out.trans ((off_three _ _ _ _).mono fun b hb => by have : b < w.heap.size := hb; omega).below, none, 0, rfl, Pcs.nil _ _⟩
  have hcb : ((t.check : Int) != 0) = false := by rw [hc]; rfl
  have HC := Lib.hid hc
  clear hc
  gi_wp2_with fail
  clear r0 r1 r2 fl fe fa hcb
  refine HK.out _ _ (WpAt.seq 5 hbr ?_)
  clear HK K
  intro K hK
  have HK := Lib.hid hK
  clear hK
  have v0 : w1.cell? ⟨w.heap.size + 1, 0, none⟩ = some (.int .u8 (v.h.kind : Nat)) := by rw [cell_of_heap' HV1.out]; rfl
  have v1 : w1.cell? ⟨w.heap.size + 1, 1, none⟩ = some (.bool v.h.b) := by rw [cell_of_heap' HV1.out]; rfl
  have v2 : w1.cell? ⟨w.heap.size + 1, 2, none⟩ = some (.int .i64 v.h.n) := by rw [cell_of_heap' HV1.out]; rfl
  have v3 : w1.cell? ⟨w.heap.size + 1, 3, none⟩ = some (.int .u64 (v.h.bits : Nat)) := by rw [cell_of_heap' HV1.out]; rfl
  have v4 : w1.cell? ⟨w.heap.size + 1, 4, none⟩ = some (.string v.h.text) := by rw [cell_of_heap' HV1.out]; rfl
  have v5 : w1.cell? ⟨w.heap.size + 1, 5, none⟩ = some (.slice a1 v.h.keys.length c1) := by rw [cell_of_heap' HV1.out]; rfl
  have v6 : w1.cell? ⟨w.heap.size + 1, 6, none⟩ = some (.slice a2 v.items.len c2) := by rw [cell_of_heap' HV1.out]; rfl
  gi_wp2_with fail
  refine ⟨trivial, (callsIn_wide.2 (JC.out _ HB1.out)).mono ?_⟩
  rintro e w2 ⟨rfl, hb2⟩
  have HB2 : Hid (Below w.heap.size w w2) := HB1.out.trans (hb2.mono (by omega))
  have HR2 := Lib.hid (HR1.out.below hb2 (by omega))
  have HV2 : Hid (w2.heap[w.heap.size + 1]? = some (.cells #[.int .u8 (v.h.kind : Nat), .bool v.h.b, .int .i64 v.h.n, .int .u64 (v.h.bits : Nat), .string v.h.text, .slice a1 v.h.keys.length c1, .slice a2 v.items.len c2] 31 (0, 0))) := (hb2.block _ (by omega)).trans HV1.out
  have HT2 : Hid (w2.heap[w.heap.size]? = some (.cells #[.slice am t.main.len cm, .slice ad t.defs.length cd] 25 (0, 0))) := (hb2.block _ (by omega)).trans HT1.out
  have hz2 : w.heap.size + 5 ≤ w2.heap.size := by have := hb2.size; omega
  clear hb2 v0 v1 v2 v3 v4 v5 v6 hz1
  obtain ⟨r0, r1, r2, fl, fe, fa, -⟩ := HR2.out.cells
  by_cases hc : chkX v = 0
  rotate_left
  · have hcb : ((chkX v : Int) != 0) = true := by
      have : ((chkX v : Int) == 0) = false := beq_eq_false_iff_ne.2 (by omega)
      simp only [bne, this]; rfl
    have HRT : Hid (Ev.runT t v fuel calls = ([], chkX v, 0)) := by unfold Hid Ev.runT; rw [if_neg (by rw [HC.out]; simp), if_pos hc]
    clear hc
    gi_wp2_with fail
    show LeavesInM _ _ _ _ _ _ [] _ _
    rw [HRT.out]
    refine run_out0 (L := w.heap.size + 2) rfl rfl rfl (HR2.out.set _ _ _) ?_
    exact ⟨HB2.out.trans ((off_three _ _ _ _).mono fun b hb => by have : b < w.heap.size := hb; omega).below, none, 0, rfl, Pcs.nil _ _⟩
  have hcb : ((chkX v : Int) != 0) = false := by rw [hc]; rfl
  have HCX := Lib.hid hc
  clear hc
  gi_wp2_with fail
  clear r0 r1 r2 fl fe fa hcb
  refine HK.out _ _ (WpAt.seq 5 hbr ?_)
  clear HK K
  intro K hK
  have HK := Lib.hid hK
  clear hK
  gi_wp2_with fail
  refine HK.out _ _ (WpAt.seqW (WpAt.seq 5 hbr ?_))
  clear HK K
  intro K hK
  have HK := Lib.hid hK
  clear hK
  have v0 : w2.cell? ⟨w.heap.size + 1, 0, none⟩ = some (.int .u8 (v.h.kind : Nat)) := by rw [cell_of_heap' HV2.out]; rfl
  have v1 : w2.cell? ⟨w.heap.size + 1, 1, none⟩ = some (.bool v.h.b) := by rw [cell_of_heap' HV2.out]; rfl
  have v2 : w2.cell? ⟨w.heap.size + 1, 2, none⟩ = some (.int .i64 v.h.n) := by rw [cell_of_heap' HV2.out]; rfl
  have v3 : w2.cell? ⟨w.heap.size + 1, 3, none⟩ = some (.int .u64 (v.h.bits : Nat)) := by rw [cell_of_heap' HV2.out]; rfl
  have v4 : w2.cell? ⟨w.heap.size + 1, 4, none⟩ = some (.string v.h.text) := by rw [cell_of_heap' HV2.out]; rfl
  have v5 : w2.cell? ⟨w.heap.size + 1, 5, none⟩ = some (.slice a1 v.h.keys.length c1) := by rw [cell_of_heap' HV2.out]; rfl
  have v6 : w2.cell? ⟨w.heap.size + 1, 6, none⟩ = some (.slice a2 v.items.len c2) := by rw [cell_of_heap' HV2.out]; rfl
  have t0 : w2.cell? ⟨w.heap.size, 0, none⟩ = some (.slice am t.main.len cm) := by rw [cell_of_heap' HT2.out]; rfl
  have t1 : w2.cell? ⟨w.heap.size, 1, none⟩ = some (.slice ad t.defs.length cd) := by rw [cell_of_heap' HT2.out]; rfl
  gi_wp2_with fail
  refine ⟨trivial, (callsIn_wide.2 (pieces_calls _ _ _ _ _ _ _ _ _ fuel calls w2)).mono ?_⟩
  rintro e w3 ⟨rfl, hb3, hx0, hx1, hx2, hx3⟩
  have HB3 : Hid (Below w.heap.size w w3) := HB2.out.trans (hb3.mono (by omega))
  have HR3 := Lib.hid (HR2.out.below hb3 (by omega))
  have HX0 := Lib.hid hx0
  have HX1 := Lib.hid hx1
  have HX2 := Lib.hid hx2
  have HX3 := Lib.hid hx3
  have hz3 : w2.heap.size + 4 ≤ w3.heap.size := by have := lt_of_block hx3; omega
  clear hb3 hx0 hx1 hx2 hx3 v0 v1 v2 v3 v4 v5 v6 t0 t1
  gi_wp2_with fail
  refine HK.out _ _ (WpAt.block ?_)
  clear HK K
  obtain ⟨r, hr⟩ : ∃ r, r = runF (defF t.defs) (clampF 256 calls) t.main v (clampF 1000000 fuel) := ⟨_, rfl⟩
  have hRT : Ev.runT t v fuel calls = endF r := by rw [hr]; exact run_is HC.out HCX.out
  rw [hRT]
  clear hRT
  have htw := (check_ok t HC.out).2.2.2.2.1
  have hkw : Kept (· < w.heap.size) w w3 := Kept.of_below HB3.out
  have HH := Lib.hid (pieces_hands t HZ.out htw v HSV.out fuel calls w3 (· < w.heap.size) (fun b hb => by have : b < w.heap.size := hb; omega) am ad a1 a2 cm cd c1 c2 _ _ _ _ HX0.out HX1.out HX2.out HX3.out (HP.out.kept hkw) (HD.out.kept hkw) (HV.out.kept hkw) r hr)
  clear htw hkw hr
  refine WpAt.rangeV hbr (fn := Tryz.f12) (by rw [HBF.out]; exact Tryz.func12) rfl (enters_of Tryz.func51 (by kernel_rfl) rfl) HH.out (fun x A B h ho => prP_off _ x A B h ho) (fun _ => rfl)
    (PcI w3.heap.size (w.heap.size + 2)) (· = w.heap.size + 2) (fun b hb => by have : b = w.heap.size + 2 := hb; omega) (fun b hb => by have : b < w.heap.size := hb; exact ⟨by omega, by omega⟩) (PcI.lies _ _) (fun S pre W h => h.lt) (PcI.start (Nat.le_refl _) HR3.out.l) pcO
    (fun x p => { tmps := #[.agg #[.slice am t.main.len cm, .slice ad t.defs.length cd], .agg #[.int .u8 (v.h.kind : Nat), .bool v.h.b, .int .i64 v.h.n, .int .u64 (v.h.bits : Nat), .string v.h.text, .slice a1 v.h.keys.length c1, .slice a2 v.items.len c2], .int .i64 fuel, .int .i64 calls, .pointer (some ⟨w.heap.size, 0, none⟩), .pointer (some ⟨w.heap.size + 1, 0, none⟩), undef, undef, .pointer (some ⟨w.heap.size + 2, 0, none⟩), .pointer (some ⟨w.heap.size + 3, 0, none⟩), .pointer (some ⟨w.heap.size + 4, 0, none⟩), .int .i64 (t.check : Nat), .int .i64 (chkX v : Nat), .pointer (some ⟨p, 0, none⟩), .agg #[.slice am t.main.len cm, .slice ad t.defs.length cd], .int .i64 (t.check : Nat), .int .i64 (t.check : Nat), .bool false, undef, .agg #[.int .u8 (v.h.kind : Nat), .bool v.h.b, .int .i64 v.h.n, .int .u64 (v.h.bits : Nat), .string v.h.text, .slice a1 v.h.keys.length c1, .slice a2 v.items.len c2], .int .i64 (chkX v : Nat), .int .i64 (chkX v : Nat), .bool false, undef, .func (.func 30) #[] #[.pointer (some ⟨w.heap.size + 3, 0, none⟩), .pointer (some ⟨w.heap.size + 4, 0, none⟩)], .agg #[.slice am t.main.len cm, .slice ad t.defs.length cd], .agg #[.int .u8 (v.h.kind : Nat), .bool v.h.b, .int .i64 v.h.n, .int .u64 (v.h.bits : Nat), .string v.h.text, .slice a1 v.h.keys.length c1, .slice a2 v.items.len c2], .int .i64 fuel, .int .i64 calls, .func (.func 51) #[] #[.pointer (some ⟨w2.heap.size, 0, none⟩), .pointer (some ⟨w2.heap.size + 1, 0, none⟩), .pointer (some ⟨w2.heap.size + 2, 0, none⟩), .pointer (some ⟨w2.heap.size + 3, 0, none⟩)], .agg (pcA x), undef, undef, undef, undef, undef], defers := [] }) ?assign ?body ?done ?pan
  case assign =>
    intro l x W K hK
    dsimp only [encP]
    gi_wp2_with fail
    exact hK
  case body =>
    intro l S pre x p W hI hlen hx hpx hSp hTp
    obtain ⟨q0, q1, q2, q3, q4, q5, q6, q7, q8, q9⟩ := pcOCs hpx
    obtain ⟨vl, cs, hl, hown, hS, hrow⟩ := hI.row
    have hl0 : W.cell? ⟨w.heap.size + 2, 0, none⟩ = some vl := by rw [cell_of_heap' hl]; rfl
    have hlb := lt_of_block hl
    have hpl := lt_of_block hpx
    have HI := Lib.hid hI
    have HX := Lib.hid hx
    have HL := Lib.hid hl
    have HOWN := Lib.hid hown
    have HS := Lib.hid hS
    have HROW := Lib.hid hrow
    clear hI hx hl hown hS hrow
    have HBA : Hid (Below W.heap.size W (W.alloc (.cells (pcA x) 44))) := (Below.refl _ W).alloc (Nat.le_refl _) _
    have HNA : Hid ((W.alloc (.cells (pcA x) 44)).heap[W.heap.size]? = some (.cells (pcA x) 44 (0, 0))) := heap_alloc_new W _
    have HOA : Hid ((W.alloc (.cells (pcA x) 44)).ownsRow w3.heap.size 44 10 vl pre.length cs) := own_kept HOWN.out (fun g hg => HBA.out.block g (own_new HOWN.out g hg).2)
    unfold pcA at HBA HNA HOA
    obtain ⟨i0, hi, hz0, hz1, hz2⟩ := info_parts infoPiece
    have hB3W : w3.heap.size ≤ W.heap.size := HI.out.big
    dsimp only
    gi_wp2_with (gi_at_builtin; refine wpListIn_append_lies _ rfl _ _ 36 rfl w3.heap.size 44 i0 _ 10 120 Tryz.underlying36 hi hz0 hz1 hz2 (by rfl) (by decide) vl pre.length cs rfl HOA.out ⟨W.heap.size, 0, none⟩ 1 1 (pcL x.pc x.a1 x.c1 x.a2 x.c2) rfl (by rfl) (cells_add HNA.out) ?one (by decide) (by unfold maxLen; omega) (by omega) ?base ?go)
    case one =>
      intro u hu
      simp only [pcL, List.mem_cons, List.not_mem_nil, or_false] at hu
      rcases hu with rfl | rfl | rfl | rfl | rfl | rfl | rfl | rfl | rfl | rfl <;> rfl
    case base => simp; omega
    case go =>
      intro g cap W1 hown1 hgrow hat hlt1
      have hne : vl.ownBlock ≠ some (w.heap.size + 2) := fun e => by have := (own_new HOWN.out _ e).1; omega
      have hl1 : W1.heap[w.heap.size + 2]? = some (.cells #[vl] 36 (0, 0)) := ((hgrow.block _ (by simp; omega) (fun e => hne e.symm)).trans (HBA.out.block _ hlb)).trans HL.out
      have hc1 : W1.cell? ⟨w.heap.size + 2, 0, none⟩ = some vl := by rw [cell_of_heap' hl1]; rfl
      have hf1 := frozen_cells hl1
      have hb1 := lt_of_block hl1
      have HO1 := Lib.hid hown1
      have HG1 := Lib.hid hgrow
      have HA1 := Lib.hid hat
      clear hown1 hgrow hat hl0 q0 q1 q2 q3 q4 q5 q6 q7 q8 q9 hl1
      gi_wp2_with fail
      exact PcI.more HI.out HX.out.new HX.out.is (by omega) HBA.out vl cs HL.out HOWN.out HROW.out HS.out g cap HO1.out HG1.out (HA1.out.imp id fun e => e.trans (by simp)) hlt1 rfl
  case done =>
    rintro D S xs W hD ⟨hr1, hr2⟩ hI hSD hoff hK
    dsimp only
    have hre := (hoff.block (w.heap.size + 3) ⟨by omega, by omega⟩).trans HR3.out.e
    have hra := (hoff.block (w.heap.size + 4) ⟨by omega, by omega⟩).trans HR3.out.a
    have hbig := hI.big
    have hSlt := hI.lt
    obtain ⟨vl, hvl, hpcs⟩ := hI.pcs
    obtain ⟨av, cv, rfl, -⟩ := id hpcs
    have hlm : (xs.map It.pc).length = xs.length := List.length_map _
    rw [hlm] at hvl hpcs
    have hR : Three (w.heap.size + 2) (.slice av xs.length cv) (.int .i64 0) (.int .i64 0) W := ⟨hvl, hre, hra⟩
    obtain ⟨r0, r1, r2, fl, fe, fa, -⟩ := hR.cells
    have HRR := Lib.hid hR
    have HKK := Lib.hid hK
    have HPC := Lib.hid hpcs
    have HOFF := Lib.hid hoff
    have HR1 := Lib.hid hr1
    have HR2 := Lib.hid hr2
    clear hR hK hpcs hoff hr1 hr2 hre hra hvl hI hSlt
    show WpAt b Tryz.prog _ _ _ _
    refine WpAt.of (n := 5) hbr ?_
    gi_wp2_with fail
    show LeavesInM _ _ _ _ _ _ ({ target := .collected D, args := #[] } :: closeR (w.heap.size + 2)) _ _
    have HR3W := Lib.hid (HRR.out.set (.slice av xs.length cv) (.int .i64 0) (.int .i64 0))
    have HO3 := Lib.hid (off_three (L := w.heap.size + 2) (.slice av xs.length cv) (.int .i64 0) (.int .i64 0) W)
    clear r0 r1 r2 fl fe fa
    suffices hsf : ∀ W3, Three (w.heap.size + 2) (.slice av xs.length cv) (.int .i64 0) (.int .i64 0) W3 → Off (fun b => b ≠ w.heap.size + 2 ∧ b ≠ w.heap.size + 2 + 1 ∧ b ≠ w.heap.size + 2 + 2) W W3 → LeavesInM Fence.wide 5 Tryz.prog Tryz.f12 _ (RunR (endF r) w) ({ target := .collected D, args := #[] } :: closeR (w.heap.size + 2)) .returning W3 from hsf _ HR3W.out HO3.out
    clear HR3W HO3
    intro W3 hr3 ho3
    have HR3W := Lib.hid hr3
    have HO3 := Lib.hid ho3
    have hK3 : W3.heap[D]? = some (.deferred (some [])) := (HO3.out.block D ⟨by omega, by omega, by omega⟩).trans HKK.out
    refine leavesM_mark (by simp) (run_takeDeferred hK3) (run_out1 (L := w.heap.size + 2) (x := .slice av xs.length cv) (y := .int .i64 0) (z := .int .i64 0) rfl rfl rfl ?_ ?_)
    · obtain ⟨x1, x2, x3⟩ := HR3W.out
      exact ⟨(World.putObj_heap_other (by omega)).trans x1, (World.putObj_heap_other (by omega)).trans x2, (World.putObj_heap_other (by omega)).trans x3⟩
    · exact run_end (n := 0) (L := w.heap.size + 2) (by omega) HB3.out (by omega) hD hSD HOFF.out ((HO3.out.mono fun b hb => ⟨hb.2.1, hb.2.2.1, hb.2.2.2.1⟩).trans (Off.putObj _ (fun h => h.2.2.2.2 rfl))) HPC.out hlm (by rw [HR2.out]; unfold endF; rw [HR1.out])
  case pan =>
    rintro D S ch xs W hD ⟨n, p, rfl, hr1, hr2⟩ hI hSD hoff hK
    dsimp only
    have hre := (hoff.block (w.heap.size + 3) ⟨by omega, by omega⟩).trans HR3.out.e
    have hra := (hoff.block (w.heap.size + 4) ⟨by omega, by omega⟩).trans HR3.out.a
    have hbig := hI.big
    obtain ⟨vl, hvl, hpcs⟩ := hI.pcs
    obtain ⟨av, cv, rfl, -⟩ := id hpcs
    have hlm : (xs.map It.pc).length = xs.length := List.length_map _
    rw [hlm] at hvl hpcs
    show LeavesInM _ _ _ _ _ _ ({ target := .collected D, args := #[] } :: closeR (w.heap.size + 2)) _ _
    refine leavesM_mark (by simp) (run_takeDeferred hK) (run_outP (L := w.heap.size + 2) n p rfl rfl rfl ⟨(World.putObj_heap_other (by omega)).trans hvl, (World.putObj_heap_other (by omega)).trans hre, (World.putObj_heap_other (by omega)).trans hra⟩ ?_)
    intro w' hw'
    have hzp : (W.putObj D (.deferred none)).heap.size = W.heap.size := by simp [World.putObj]
    exact run_end (n := n) (L := w.heap.size + 2) (by omega) HB3.out (by omega) hD hSD hoff ((Off.putObj (S := fun b => b < W.heap.size ∧ b ≠ w.heap.size + 2 ∧ b ≠ w.heap.size + 2 + 1 ∧ b ≠ w.heap.size + 2 + 2 ∧ b ≠ D) _ (fun h => h.2.2.2.2 rfl)).trans (hw'.mono fun b hb => ⟨by rw [hzp]; exact hb.1, hb.2.2.1, hb.2.2.2.1⟩)) hpcs hlm (by rw [hr2]; unfold endF; rw [hr1])
end Go.Proofs.YtepcpgdfbaklfaaGreatDoor
