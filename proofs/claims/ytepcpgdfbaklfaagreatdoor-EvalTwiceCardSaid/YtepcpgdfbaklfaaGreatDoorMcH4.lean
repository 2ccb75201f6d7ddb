/- The contract of eval.Run. The condition: sizes of at most 2 to the 24th; the tables read as they were laid. -/
import Derived.Test.YtepcpgdfbaklfaaGreatDoorMcG9
import Derived.Test.YtepcpgdfbaklfaaGreatDoorMcH1
import Derived.Test.YtepcpgdfbaklfaaGreatDoorMcTl7
import Derived.Test.YtepcpgdfbaklfaaGreatDoorMcTs0
import Derived.Test.YtepcpgdfbaklfaaGreatDoorMcTpe
set_option linter.unusedSimpArgs false
set_option linter.unusedVariables false
namespace Go.Proofs.YtepcpgdfbaklfaaGreatDoor
open Go.RowKit Go.Shelf Ev
attribute [local go_sem] Oper.semAt_some
set_option maxRecDepth 100000 in
set_option maxHeartbeats 40000000 in
theorem run_calls (t : Tm) (hz : TmZ t) (v : Va) (hsv : Va.sm v) (fuel calls : Int) (am ad a1 a2 : Option Addr) (cm cd c1 c2 : Nat) (w : World) (hg : Gd w) (hp : Parts (· < w.heap.size) w (.slice am t.main.len cm) t.main) (hd : Defs (· < w.heap.size) w (.slice ad t.defs.length cd) t.defs) (hv : ValS (· < w.heap.size) w v a1 c1 a2 c2) :
 Calls Tryz.prog 12 #[.agg #[.slice am t.main.len cm, .slice ad t.defs.length cd], .agg #[.int .u8 (v.h.kind : Nat), .bool v.h.b, .int .i64 v.h.n, .int .u64 (v.h.bits : Nat), .string v.h.text, .slice a1 v.h.keys.length c1, .slice a2 v.items.len c2], .int .i64 fuel, .int .i64 calls] w (RunR (Ev.runT t v fuel calls) w) := by
 have hmf : ∀ (fn : Fn) (first cap : Array Value) (w : World), (Instr.makeFunc fn first cap).run Tryz.prog w = .ok (.func fn first cap) w := fun _ _ _ _ => rfl
 have CC : Hid (∀ W, Below w.heap.size w W → Calls Tryz.prog 22 #[.agg #[.slice am t.main.len cm, .slice ad t.defs.length cd]] W (CheckR t W)) := fun W hW =>
  check_calls t hz _ _ W (hg.belowB hg.glB hW) ((hp.kept (Kept.of_below hW)).mono (fun b hb => Nat.lt_of_lt_of_le hb hW.size)) ((hd.kept (Kept.of_below hW)).mono (fun b hb => Nat.lt_of_lt_of_le hb hW.size))
 have JC : Hid (∀ W, Below w.heap.size w W → Calls Tryz.prog 29 #[.agg #[.int .u8 (v.h.kind : Nat), .bool v.h.b, .int .i64 v.h.n, .int .u64 (v.h.bits : Nat), .string v.h.text, .slice a1 v.h.keys.length c1, .slice a2 v.items.len c2]] W fun e w' => e = .returned (.int .i64 (chkX v : Nat)) ∧ Below W.heap.size W w') := fun W hW =>
  jcheck_calls v (· < w.heap.size) a1 a2 c1 c2 W hsv (hv.kept (Kept.of_below hW))
 have HZ := Lib.hid hz
 have HSV := Lib.hid hsv
 have HP := Lib.hid hp
 have HD := Lib.hid hd
 have HV := Lib.hid hv
 clear hz hsv hg hp hd hv
 refine calls_at 5 Tryz.func12 rfl ?_
 intro b hbf hbr
 have HBF := Lib.hid hbf
 clear hbf
 simp only [Tryz.ntmps12, List.size_toArray, List.length_cons, List.length_nil, Nat.reduceAdd, Nat.reduceSub, Array.replicate_succ, Array.replicate_zero, List.push_toArray, List.append_toArray, List.nil_append, List.cons_append]
 refine WpAt.seq 5 hbr ?_
 intro K hK
 have HK := Lib.hid hK
 clear hK
 have HT : Hid (∀ W0, (((((w.alloc (.cells #[.slice am t.main.len cm, .slice ad t.defs.length cd] 25)).alloc (.cells #[.int .u8 (v.h.kind : Nat), .bool v.h.b, .int .i64 v.h.n, .int .u64 (v.h.bits : Nat), .string v.h.text, .slice a1 v.h.keys.length c1, .slice a2 v.items.len c2] 31)).alloc (.cells #[.slice none 0 0] 36)).alloc (.cells #[.int .i64 0] 37)).alloc (.cells #[.int .i64 0] 3)) = W0 →
  Below w.heap.size w W0 ∧ W0.heap.size = w.heap.size + 5 ∧ W0.heap[w.heap.size]? = some (.cells #[.slice am t.main.len cm, .slice ad t.defs.length cd] 25 (0, 0)) ∧ W0.heap[w.heap.size + 1]? = some (.cells #[.int .u8 (v.h.kind : Nat), .bool v.h.b, .int .i64 v.h.n, .int .u64 (v.h.bits : Nat), .string v.h.text, .slice a1 v.h.keys.length c1, .slice a2 v.items.len c2] 31 (0, 0)) ∧ Three (w.heap.size + 2) (.slice none 0 0) (.int .i64 0) (.int .i64 0) W0) := by
  rintro W0 rfl
  have n0 := heap_alloc_new w (.cells #[.slice am t.main.len cm, .slice ad t.defs.length cd] 25)
  have n1 := heap_alloc_new (w.alloc (.cells #[.slice am t.main.len cm, .slice ad t.defs.length cd] 25)) (.cells #[.int .u8 (v.h.kind : Nat), .bool v.h.b, .int .i64 v.h.n, .int .u64 (v.h.bits : Nat), .string v.h.text, .slice a1 v.h.keys.length c1, .slice a2 v.items.len c2] 31)
  have n2 := heap_alloc_new ((w.alloc (.cells #[.slice am t.main.len cm, .slice ad t.defs.length cd] 25)).alloc (.cells #[.int .u8 (v.h.kind : Nat), .bool v.h.b, .int .i64 v.h.n, .int .u64 (v.h.bits : Nat), .string v.h.text, .slice a1 v.h.keys.length c1, .slice a2 v.items.len c2] 31)) (.cells #[.slice none 0 0] 36)
  have n3 := heap_alloc_new (((w.alloc (.cells #[.slice am t.main.len cm, .slice ad t.defs.length cd] 25)).alloc (.cells #[.int .u8 (v.h.kind : Nat), .bool v.h.b, .int .i64 v.h.n, .int .u64 (v.h.bits : Nat), .string v.h.text, .slice a1 v.h.keys.length c1, .slice a2 v.items.len c2] 31)).alloc (.cells #[.slice none 0 0] 36)) (.cells #[.int .i64 0] 37)
  have n4 := heap_alloc_new ((((w.alloc (.cells #[.slice am t.main.len cm, .slice ad t.defs.length cd] 25)).alloc (.cells #[.int .u8 (v.h.kind : Nat), .bool v.h.b, .int .i64 v.h.n, .int .u64 (v.h.bits : Nat), .string v.h.text, .slice a1 v.h.keys.length c1, .slice a2 v.items.len c2] 31)).alloc (.cells #[.slice none 0 0] 36)).alloc (.cells #[.int .i64 0] 37)) (.cells #[.int .i64 0] 3)
  simp only [World.size_alloc, Nat.add_assoc, Nat.reduceAdd] at n1 n2 n3 n4
  refine ⟨(((((Below.refl _ w).alloc (Nat.le_refl _) _).alloc (by simp) _).alloc (by simp <;> omega) _).alloc (by simp <;> omega) _).alloc (by simp <;> omega) _, by simp, ?_, ?_, ⟨?_, ?_, n4⟩⟩
  · exact (Below.heap_alloc _ _ _ (by simp <;> omega)).trans ((Below.heap_alloc _ _ _ (by simp <;> omega)).trans ((Below.heap_alloc _ _ _ (by simp <;> omega)).trans ((Below.heap_alloc _ _ _ (by simp)).trans n0)))
  · exact (Below.heap_alloc _ _ _ (by simp <;> omega)).trans ((Below.heap_alloc _ _ _ (by simp <;> omega)).trans ((Below.heap_alloc _ _ _ (by simp)).trans n1))
  · exact (Below.heap_alloc _ _ _ (by simp <;> omega)).trans ((Below.heap_alloc _ _ _ (by simp)).trans n2)
  · exact (Below.heap_alloc _ _ _ (by simp)).trans n3
 gi_wp2_with fail
 try simp only [Nat.add_assoc, Nat.reduceAdd]
 generalize hWW : World.alloc (World.alloc (World.alloc (World.alloc (World.alloc w _) _) _) _) _ = W0 at *
 obtain ⟨hB0, hz0, hT0, hV0, hR0⟩ := HT.out W0 rfl
 clear hWW HT
 have HB0 := Lib.hid hB0
 have HT0 := Lib.hid hT0
 have HV0 := Lib.hid hV0
 have HR0 := Lib.hid hR0
 clear hB0 hR0 hV0
 refine HK.out _ _ (WpAt.seq 5 hbr ?_)
 clear HK K
 intro K hK
 have HK := Lib.hid hK
 clear hK
 have t0 : W0.cell? ⟨w.heap.size, 0, none⟩ = some (.slice am t.main.len cm) := by rw [cell_of_heap' hT0]; rfl
 have t1 : W0.cell? ⟨w.heap.size, 1, none⟩ = some (.slice ad t.defs.length cd) := by rw [cell_of_heap' hT0]; rfl
 clear hT0
 gi_wp2_with fail
 refine ⟨trivial, (callsIn_wide.2 (CC.out _ HB0.out)).mono ?_⟩
 rintro e w1 ⟨rfl, hb1⟩
 have HB1 : Hid (Below w.heap.size w w1) := HB0.out.trans (hb1.mono (by omega))
 have HR1 := Lib.hid (HR0.out.below hb1 (by omega))
 have HV1 : Hid (w1.heap[w.heap.size + 1]? = some (.cells #[.int .u8 (v.h.kind : Nat), .bool v.h.b, .int .i64 v.h.n, .int .u64 (v.h.bits : Nat), .string v.h.text, .slice a1 v.h.keys.length c1, .slice a2 v.items.len c2] 31 (0, 0))) := (hb1.block _ (by omega)).trans HV0.out
 have HT1 : Hid (w1.heap[w.heap.size]? = some (.cells #[.slice am t.main.len cm, .slice ad t.defs.length cd] 25 (0, 0))) := (hb1.block _ (by omega)).trans HT0.out
 have hz1 : w.heap.size + 5 ≤ w1.heap.size := by have := hb1.size; omega
 clear hb1 t0 t1 hz0
 obtain ⟨r0, r1, r2, fl, fe, fa, -⟩ := HR1.out.cells
 by_cases hc : t.check = 0
 rotate_left
 · have hcb : ((t.check : Int) != 0) = true := by
    have : ((t.check : Int) == 0) = false := beq_eq_false_iff_ne.2 (by omega)
    simp only [bne, this]; rfl
   have HRT : Hid (Ev.runT t v fuel calls = ([], t.check, 0)) := by unfold Hid Ev.runT; rw [if_pos hc]
   clear hc
   gi_wp2_with fail
   show LeavesInM _ _ _ _ _ _ [] _ _
   rw [HRT.out]
   refine run_out0 (L := w.heap.size + 2) rfl rfl rfl (HR1.out.set _ _ _) ?_
   exact ⟨HB1.out.trans ((off_three _ _ _ _).mono fun b hb => by have : b < w.heap.size := hb; omega).below, none, 0, rfl, Pcs.nil _ _⟩
 have hcb : ((t.check : Int) != 0) = false := by rw [hc]; rfl
 have HC := Lib.hid hc
 clear hc
 gi_wp2_with fail
 clear r0 r1 r2 fl fe fa hcb
 refine HK.out _ _ (WpAt.seq 5 hbr ?_)
 clear HK K
 intro K hK
 have HK := Lib.hid hK
 clear hK
 have v0 : w1.cell? ⟨w.heap.size + 1, 0, none⟩ = some (.int .u8 (v.h.kind : Nat)) := by rw [cell_of_heap' HV1.out]; rfl
 have v1 : w1.cell? ⟨w.heap.size + 1, 1, none⟩ = some (.bool v.h.b) := by rw [cell_of_heap' HV1.out]; rfl
 have v2 : w1.cell? ⟨w.heap.size + 1, 2, none⟩ = some (.int .i64 v.h.n) := by rw [cell_of_heap' HV1.out]; rfl
 have v3 : w1.cell? ⟨w.heap.size + 1, 3, none⟩ = some (.int .u64 (v.h.bits : Nat)) := by rw [cell_of_heap' HV1.out]; rfl
 have v4 : w1.cell? ⟨w.heap.size + 1, 4, none⟩ = some (.string v.h.text) := by rw [cell_of_heap' HV1.out]; rfl
 have v5 : w1.cell? ⟨w.heap.size + 1, 5, none⟩ = some (.slice a1 v.h.keys.length c1) := by rw [cell_of_heap' HV1.out]; rfl
 have v6 : w1.cell? ⟨w.heap.size + 1, 6, none⟩ = some (.slice a2 v.items.len c2) := by rw [cell_of_heap' HV1.out]; rfl
 gi_wp2_with fail
 refine ⟨trivial, (callsIn_wide.2 (JC.out _ HB1.out)).mono ?_⟩
 rintro e w2 ⟨rfl, hb2⟩
 have HB2 : Hid (Below w.heap.size w w2) := HB1.out.trans (hb2.mono (by omega))
 have HR2 := Lib.hid (HR1.out.below hb2 (by omega))
 have HV2 : Hid (w2.heap[w.heap.size + 1]? = some (.cells #[.int .u8 (v.h.kind : Nat), .bool v.h.b, .int .i64 v.h.n, .int .u64 (v.h.bits : Nat), .string v.h.text, .slice a1 v.h.keys.length c1, .slice a2 v.items.len c2] 31 (0, 0))) := (hb2.block _ (by omega)).trans HV1.out
 have HT2 : Hid (w2.heap[w.heap.size]? = some (.cells #[.slice am t.main.len cm, .slice ad t.defs.length cd] 25 (0, 0))) := (hb2.block _ (by omega)).trans HT1.out
 have hz2 : w.heap.size + 5 ≤ w2.heap.size := by have := hb2.size; omega
 clear hb2 v0 v1 v2 v3 v4 v5 v6 hz1
 obtain ⟨r0, r1, r2, fl, fe, fa, -⟩ := HR2.out.cells
 by_cases hc : chkX v = 0
 rotate_left
 · have hcb : ((chkX v : Int) != 0) = true := by
    have : ((chkX v : Int) == 0) = false := beq_eq_false_iff_ne.2 (by omega)
    simp only [bne, this]; rfl
   have HRT : Hid (Ev.runT t v fuel calls = ([], chkX v, 0)) := by unfold Hid Ev.runT; rw [if_neg (by rw [HC.out]; simp), if_pos hc]
   clear hc
   gi_wp2_with fail
   show LeavesInM _ _ _ _ _ _ [] _ _
   rw [HRT.out]
   refine run_out0 (L := w.heap.size + 2) rfl rfl rfl (HR2.out.set _ _ _) ?_
   exact ⟨HB2.out.trans ((off_three _ _ _ _).mono fun b hb => by have : b < w.heap.size := hb; omega).below, none, 0, rfl, Pcs.nil _ _⟩
 have hcb : ((chkX v : Int) != 0) = false := by rw [hc]; rfl
 have HCX := Lib.hid hc
 clear hc
 gi_wp2_with fail
 clear r0 r1 r2 fl fe fa hcb
 refine HK.out _ _ (WpAt.seq 5 hbr ?_)
 clear HK K
 intro K hK
 have HK := Lib.hid hK
 clear hK
 gi_wp2_with fail
 refine HK.out _ _ (WpAt.seqW (WpAt.seq 5 hbr ?_))
 clear HK K
 intro K hK
 have HK := Lib.hid hK
 clear hK
 have v0 : w2.cell? ⟨w.heap.size + 1, 0, none⟩ = some (.int .u8 (v.h.kind : Nat)) := by rw [cell_of_heap' HV2.out]; rfl
 have v1 : w2.cell? ⟨w.heap.size + 1, 1, none⟩ = some (.bool v.h.b) := by rw [cell_of_heap' HV2.out]; rfl
 have v2 : w2.cell? ⟨w.heap.size + 1, 2, none⟩ = some (.int .i64 v.h.n) := by rw [cell_of_heap' HV2.out]; rfl
 have v3 : w2.cell? ⟨w.heap.size + 1, 3, none⟩ = some (.int .u64 (v.h.bits : Nat)) := by rw [cell_of_heap' HV2.out]; rfl
 have v4 : w2.cell? ⟨w.heap.size + 1, 4, none⟩ = some (.string v.h.text) := by rw [cell_of_heap' HV2.out]; rfl
 have v5 : w2.cell? ⟨w.heap.size + 1, 5, none⟩ = some (.slice a1 v.h.keys.length c1) := by rw [cell_of_heap' HV2.out]; rfl
 have v6 : w2.cell? ⟨w.heap.size + 1, 6, none⟩ = some (.slice a2 v.items.len c2) := by rw [cell_of_heap' HV2.out]; rfl
 have t0 : w2.cell? ⟨w.heap.size, 0, none⟩ = some (.slice am t.main.len cm) := by rw [cell_of_heap' HT2.out]; rfl
 have t1 : w2.cell? ⟨w.heap.size, 1, none⟩ = some (.slice ad t.defs.length cd) := by rw [cell_of_heap' HT2.out]; rfl
 gi_wp2_with fail
 refine ⟨trivial, (callsIn_wide.2 (pieces_calls _ _ _ _ _ _ _ _ _ fuel calls w2)).mono ?_⟩
 rintro e w3 ⟨rfl, hb3, hx0, hx1, hx2, hx3⟩
 have HB3 : Hid (Below w.heap.size w w3) := HB2.out.trans (hb3.mono (by omega))
 have HR3 := Lib.hid (HR2.out.below hb3 (by omega))
 have HX0 := Lib.hid hx0
 have HX1 := Lib.hid hx1
 have HX2 := Lib.hid hx2
 have HX3 := Lib.hid hx3
 have hz3 : w2.heap.size + 4 ≤ w3.heap.size := by have := lt_of_block hx3; omega
 clear hb3 hx0 hx1 hx2 hx3 v0 v1 v2 v3 v4 v5 v6 t0 t1
 gi_wp2_with fail
 refine HK.out _ _ (WpAt.block ?_)
 clear HK K
 obtain ⟨r, hr⟩ : ∃ r, r = runF (defF t.defs) (clampF 256 calls) t.main v (clampF 1000000 fuel) := ⟨_, rfl⟩
 have hRT : Ev.runT t v fuel calls = endF r := by rw [hr]; exact run_is HC.out HCX.out
 rw [hRT]
 clear hRT
 have htw := (check_ok t HC.out).2.2.2.2.1
 have hkw : Kept (· < w.heap.size) w w3 := Kept.of_below HB3.out
 have HH := Lib.hid (pieces_hands t HZ.out htw v HSV.out fuel calls w3 (· < w.heap.size) (fun b hb => by have : b < w.heap.size := hb; omega) am ad a1 a2 cm cd c1 c2 _ _ _ _ HX0.out HX1.out HX2.out HX3.out (HP.out.kept hkw) (HD.out.kept hkw) (HV.out.kept hkw) r hr)
 clear htw hkw hr
 refine WpAt.rangeV hbr (fn := Tryz.f12) (by rw [HBF.out]; exact Tryz.func12) rfl (enters_of Tryz.func51 (by kernel_rfl) rfl) HH.out (fun x A B h ho => prP_off _ x A B h ho) (fun _ => rfl)
  (PcI w3.heap.size (w.heap.size + 2)) (· = w.heap.size + 2) (fun b hb => by have : b = w.heap.size + 2 := hb; omega) (fun b hb => by have : b < w.heap.size := hb; exact ⟨by omega, by omega⟩) (PcI.lies _ _) (fun S pre W h => h.lt) (PcI.start (Nat.le_refl _) HR3.out.l) pcO
  (fun x p => { tmps := #[.agg #[.slice am t.main.len cm, .slice ad t.defs.length cd], .agg #[.int .u8 (v.h.kind : Nat), .bool v.h.b, .int .i64 v.h.n, .int .u64 (v.h.bits : Nat), .string v.h.text, .slice a1 v.h.keys.length c1, .slice a2 v.items.len c2], .int .i64 fuel, .int .i64 calls, .pointer (some ⟨w.heap.size, 0, none⟩), .pointer (some ⟨w.heap.size + 1, 0, none⟩), undef, undef, .pointer (some ⟨w.heap.size + 2, 0, none⟩), .pointer (some ⟨w.heap.size + 3, 0, none⟩), .pointer (some ⟨w.heap.size + 4, 0, none⟩), .int .i64 (t.check : Nat), .int .i64 (chkX v : Nat), .pointer (some ⟨p, 0, none⟩), .agg #[.slice am t.main.len cm, .slice ad t.defs.length cd], .int .i64 (t.check : Nat), .int .i64 (t.check : Nat), .bool false, undef, .agg #[.int .u8 (v.h.kind : Nat), .bool v.h.b, .int .i64 v.h.n, .int .u64 (v.h.bits : Nat), .string v.h.text, .slice a1 v.h.keys.length c1, .slice a2 v.items.len c2], .int .i64 (chkX v : Nat), .int .i64 (chkX v : Nat), .bool false, undef, .func (.func 30) #[] #[.pointer (some ⟨w.heap.size + 3, 0, none⟩), .pointer (some ⟨w.heap.size + 4, 0, none⟩)], .agg #[.slice am t.main.len cm, .slice ad t.defs.length cd], .agg #[.int .u8 (v.h.kind : Nat), .bool v.h.b, .int .i64 v.h.n, .int .u64 (v.h.bits : Nat), .string v.h.text, .slice a1 v.h.keys.length c1, .slice a2 v.items.len c2], .int .i64 fuel, .int .i64 calls, .func (.func 51) #[] #[.pointer (some ⟨w2.heap.size, 0, none⟩), .pointer (some ⟨w2.heap.size + 1, 0, none⟩), .pointer (some ⟨w2.heap.size + 2, 0, none⟩), .pointer (some ⟨w2.heap.size + 3, 0, none⟩)], .agg (pcA x), undef, undef, undef, undef, undef], defers := [] }) ?assign ?body ?done ?pan
 case assign =>
  intro l x W K hK
  dsimp only [encP]
  gi_wp2_with fail
  exact hK
 case body =>
  intro l S pre x p W hI hlen hx hpx hSp hTp
  obtain ⟨q0, q1, q2, q3, q4, q5, q6, q7, q8, q9⟩ := pcOCs hpx
  obtain ⟨vl, cs, hl, hown, hS, hrow⟩ := hI.row
  have hl0 : W.cell? ⟨w.heap.size + 2, 0, none⟩ = some vl := by rw [cell_of_heap' hl]; rfl
  have hlb := lt_of_block hl
  have hpl := lt_of_block hpx
  have HI := Lib.hid hI
  have HX := Lib.hid hx
  have HL := Lib.hid hl
  have HOWN := Lib.hid hown
  have HS := Lib.hid hS
  have HROW := Lib.hid hrow
  clear hI hx hl hown hS hrow
  have HBA : Hid (Below W.heap.size W (W.alloc (.cells (pcA x) 44))) := (Below.refl _ W).alloc (Nat.le_refl _) _
  have HNA : Hid ((W.alloc (.cells (pcA x) 44)).heap[W.heap.size]? = some (.cells (pcA x) 44 (0, 0))) := heap_alloc_new W _
  have HOA : Hid ((W.alloc (.cells (pcA x) 44)).ownsRow w3.heap.size 44 10 vl pre.length cs) := own_kept HOWN.out (fun g hg => HBA.out.block g (own_new HOWN.out g hg).2)
  unfold pcA at HBA HNA HOA
  obtain ⟨i0, hi, hz0, hz1, hz2⟩ := info_parts infoPiece
  have hB3W : w3.heap.size ≤ W.heap.size := HI.out.big
  dsimp only
  gi_wp2_with (gi_at_builtin; refine wpListIn_append_lies _ rfl _ _ 36 rfl w3.heap.size 44 i0 _ 10 120 Tryz.underlying36 hi hz0 hz1 hz2 (by rfl) (by decide) vl pre.length cs rfl HOA.out ⟨W.heap.size, 0, none⟩ 1 1 (pcL x.pc x.a1 x.c1 x.a2 x.c2) rfl (by rfl) (cells_add HNA.out) ?one (by decide) (by unfold maxLen; omega) (by omega) ?base ?go)
  case one =>
   intro u hu
   simp only [pcL, List.mem_cons, List.not_mem_nil, or_false] at hu
   rcases hu with rfl | rfl | rfl | rfl | rfl | rfl | rfl | rfl | rfl | rfl <;> rfl
  case base => simp; omega
  case go =>
   intro g cap W1 hown1 hgrow hat hlt1
   have hne : vl.ownBlock ≠ some (w.heap.size + 2) := fun e => by have := (own_new HOWN.out _ e).1; omega
   have hl1 : W1.heap[w.heap.size + 2]? = some (.cells #[vl] 36 (0, 0)) := ((hgrow.block _ (by simp; omega) (fun e => hne e.symm)).trans (HBA.out.block _ hlb)).trans HL.out
   have hc1 : W1.cell? ⟨w.heap.size + 2, 0, none⟩ = some vl := by rw [cell_of_heap' hl1]; rfl
   have hf1 := frozen_cells hl1
   have hb1 := lt_of_block hl1
   have HO1 := Lib.hid hown1
   have HG1 := Lib.hid hgrow
   have HA1 := Lib.hid hat
   clear hown1 hgrow hat hl0 q0 q1 q2 q3 q4 q5 q6 q7 q8 q9 hl1
   gi_wp2_with fail
   exact PcI.more HI.out HX.out.new HX.out.is (by omega) HBA.out vl cs HL.out HOWN.out HROW.out HS.out g cap HO1.out HG1.out (HA1.out.imp id fun e => e.trans (by simp)) hlt1 rfl
 case done =>
  rintro D S xs W hD ⟨hr1, hr2⟩ hI hSD hoff hK
  dsimp only
  have hre := (hoff.block (w.heap.size + 3) ⟨by omega, by omega⟩).trans HR3.out.e
  have hra := (hoff.block (w.heap.size + 4) ⟨by omega, by omega⟩).trans HR3.out.a
  have hbig := hI.big
  have hSlt := hI.lt
  obtain ⟨vl, hvl, hpcs⟩ := hI.pcs
  obtain ⟨av, cv, rfl, -⟩ := id hpcs
  have hlm : (xs.map It.pc).length = xs.length := List.length_map _
  rw [hlm] at hvl hpcs
  have hR : Three (w.heap.size + 2) (.slice av xs.length cv) (.int .i64 0) (.int .i64 0) W := ⟨hvl, hre, hra⟩
  obtain ⟨r0, r1, r2, fl, fe, fa, -⟩ := hR.cells
  have HRR := Lib.hid hR
  have HKK := Lib.hid hK
  have HPC := Lib.hid hpcs
  have HOFF := Lib.hid hoff
  have HR1 := Lib.hid hr1
  have HR2 := Lib.hid hr2
  clear hR hK hpcs hoff hr1 hr2 hre hra hvl hI hSlt
  show WpAt b Tryz.prog _ _ _ _
  refine WpAt.of (n := 5) hbr ?_
  gi_wp2_with fail
  show LeavesInM _ _ _ _ _ _ ({ target := .collected D, args := #[] } :: closeR (w.heap.size + 2)) _ _
  have HR3W := Lib.hid (HRR.out.set (.slice av xs.length cv) (.int .i64 0) (.int .i64 0))
  have HO3 := Lib.hid (off_three (L := w.heap.size + 2) (.slice av xs.length cv) (.int .i64 0) (.int .i64 0) W)
  clear r0 r1 r2 fl fe fa
  suffices hsf : ∀ W3, Three (w.heap.size + 2) (.slice av xs.length cv) (.int .i64 0) (.int .i64 0) W3 → Off (fun b => b ≠ w.heap.size + 2 ∧ b ≠ w.heap.size + 2 + 1 ∧ b ≠ w.heap.size + 2 + 2) W W3 → LeavesInM Fence.wide 5 Tryz.prog Tryz.f12 _ (RunR (endF r) w) ({ target := .collected D, args := #[] } :: closeR (w.heap.size + 2)) .returning W3 from hsf _ HR3W.out HO3.out
  clear HR3W HO3
  intro W3 hr3 ho3
  have HR3W := Lib.hid hr3
  have HO3 := Lib.hid ho3
  have hK3 : W3.heap[D]? = some (.deferred (some [])) := (HO3.out.block D ⟨by omega, by omega, by omega⟩).trans HKK.out
  refine leavesM_mark (by simp) (run_takeDeferred hK3) (run_out1 (L := w.heap.size + 2) (x := .slice av xs.length cv) (y := .int .i64 0) (z := .int .i64 0) rfl rfl rfl ?_ ?_)
  · obtain ⟨x1, x2, x3⟩ := HR3W.out
    exact ⟨(World.putObj_heap_other (by omega)).trans x1, (World.putObj_heap_other (by omega)).trans x2, (World.putObj_heap_other (by omega)).trans x3⟩
  · exact run_end (n := 0) (L := w.heap.size + 2) (by omega) HB3.out (by omega) hD hSD HOFF.out ((HO3.out.mono fun b hb => ⟨hb.2.1, hb.2.2.1, hb.2.2.2.1⟩).trans (Off.putObj _ (fun h => h.2.2.2.2 rfl))) HPC.out hlm (by rw [HR2.out]; unfold endF; rw [HR1.out])
 case pan =>
  rintro D S ch xs W hD ⟨n, p, rfl, hr1, hr2⟩ hI hSD hoff hK
  dsimp only
  have hre := (hoff.block (w.heap.size + 3) ⟨by omega, by omega⟩).trans HR3.out.e
  have hra := (hoff.block (w.heap.size + 4) ⟨by omega, by omega⟩).trans HR3.out.a
  have hbig := hI.big
  obtain ⟨vl, hvl, hpcs⟩ := hI.pcs
  obtain ⟨av, cv, rfl, -⟩ := id hpcs
  have hlm : (xs.map It.pc).length = xs.length := List.length_map _
  rw [hlm] at hvl hpcs
  show LeavesInM _ _ _ _ _ _ ({ target := .collected D, args := #[] } :: closeR (w.heap.size + 2)) _ _
  refine leavesM_mark (by simp) (run_takeDeferred hK) (run_outP (L := w.heap.size + 2) n p rfl rfl rfl ⟨(World.putObj_heap_other (by omega)).trans hvl, (World.putObj_heap_other (by omega)).trans hre, (World.putObj_heap_other (by omega)).trans hra⟩ ?_)
  intro w' hw'
  have hzp : (W.putObj D (.deferred none)).heap.size = W.heap.size := by simp [World.putObj]
  exact run_end (n := n) (L := w.heap.size + 2) (by omega) HB3.out (by omega) hD hSD hoff ((Off.putObj (S := fun b => b < W.heap.size ∧ b ≠ w.heap.size + 2 ∧ b ≠ w.heap.size + 2 + 1 ∧ b ≠ w.heap.size + 2 + 2 ∧ b ≠ D) _ (fun h => h.2.2.2.2 rfl)).trans (hw'.mono fun b hb => ⟨by rw [hzp]; exact hb.1, hb.2.2.1, hb.2.2.2.1⟩)) hpcs hlm (by rw [hr2]; unfold endF; rw [hr1])
attribute [local go_sem ↓] Go.wp_at_zero Go.wp_at_succ
def w1S : ByteArray := ⟨#[97, 123, 123, 114, 97, 110, 103, 101, 32, 46, 108, 125, 125, 123, 123, 46, 125, 125, 123, 123, 101, 108, 115, 101, 125, 125, 110, 111, 110, 101, 123, 123, 101, 110, 100, 125, 125]⟩
def w2S : ByteArray := ⟨#[123, 123, 46, 120, 125, 125]⟩
def w1T : Tm := ⟨.cons (hdText 0 [97]) .nil .nil (.cons (hdWay 4 1 false [[108]]) (.cons (hdHole 13 false []) .nil .nil .nil) (.cons (hdText 26 [110, 111, 110, 101]) .nil .nil .nil) .nil), []⟩
def w2T : Tm := ⟨.cons (hdHole 0 false [[120]]) .nil .nil .nil, []⟩
theorem w1_parse : parseB (fun _ => none) (bl w1S) = .ok w1T := by kernel_rfl
theorem w2_parse : parseB (fun _ => none) (bl w2S) = .ok w2T := by kernel_rfl
theorem w1_valid : Lib.validD (bl w1S) = true := by kernel_rfl
theorem w2_valid : Lib.validD (bl w2S) = true := by kernel_rfl
theorem w1_z : TmZ w1T := by
 have e : ∀ h : Hd, h ∈ [hdText 0 [97], hdWay 4 1 false [[108]], hdHole 13 false [], hdText 26 [110, 111, 110, 101]] → h.sm := by
  intro h hm
  simp only [List.mem_cons, List.mem_nil_iff, or_false] at hm
  rcases hm with rfl | rfl | rfl | rfl <;> exact ⟨by decide, by decide, by decide, by decide, by decide⟩
 refine ⟨?_, ?_, ?_, ?_, ?_⟩
 · exact ⟨e _ (by simp), trivial, trivial, e _ (by simp), ⟨e _ (by simp), trivial, trivial, trivial⟩, ⟨e _ (by simp), trivial, trivial, trivial⟩, trivial⟩
 · intro d hd
   simp [w1T] at hd
 · simp [w1T, Pt.cnt]
 · simp [w1T]
 · have : w1T.src.length = 37 := by kernel_rfl
   omega
theorem w2_z : TmZ w2T := by
 refine ⟨?_, ?_, ?_, ?_, ?_⟩
 · exact ⟨⟨by decide, by decide, by decide, by decide, by decide⟩, trivial, trivial, trivial⟩
 · intro d hd
   simp [w2T] at hd
 · simp [w2T, Pt.cnt]
 · simp [w2T]
 · have : w2T.src.length = 6 := by kernel_rfl
   omega
def wI (n : Int) : Vh := ⟨3, false, n, 0, ⟨#[]⟩, []⟩
def w1V : Va := ⟨⟨7, false, 0, 0, ⟨#[]⟩, [⟨#[108]⟩]⟩, .cons ⟨6, false, 0, 0, ⟨#[]⟩, []⟩ (.cons (wI 1) .nil (.cons (wI 2) .nil .nil)) .nil⟩
def w2V : Va := ⟨wI 0, .nil⟩
theorem wI_sm (n : Int) (h : -9223372036854775808 ≤ n) (k : n ≤ 9223372036854775807) : (wI n).sm := ⟨(by decide : 3 < 256), h, k, (by decide : 0 < 18446744073709551616), (by decide : (⟨#[]⟩ : ByteArray).size ≤ 16777216), (by decide : ([] : List ByteArray).length ≤ 16777216), fun n hn => by cases hn⟩
theorem w1V_sm : Va.sm w1V := ⟨⟨by decide, by decide, by decide, by decide, by decide, by decide, fun n hn => by rw [List.mem_singleton.1 hn]; decide⟩, ⟨⟨by decide, by decide, by decide, by decide, by decide, by decide, fun n hn => by cases hn⟩, ⟨wI_sm 1 (by decide) (by decide), trivial, wI_sm 2 (by decide) (by decide), trivial, trivial⟩, trivial⟩, by decide⟩
theorem w2V_sm : Va.sm w2V := ⟨wI_sm 0 (by decide) (by decide), trivial, by decide⟩
theorem w_run1 : Ev.runT w1T w1V 100 0 = ([⟨0, false, zeroVa, mkB [97]⟩, ⟨13, true, ⟨wI 1, .nil⟩, .empty⟩, ⟨13, true, ⟨wI 2, .nil⟩, .empty⟩], 0, 0) := by kernel_rfl
theorem w_run2 : Ev.runT w1T w1V 4 0 = ([⟨0, false, zeroVa, mkB [97]⟩, ⟨13, true, ⟨wI 1, .nil⟩, .empty⟩], 202, 1) := by kernel_rfl
theorem w_run3 : Ev.runT w2T w1V 9 0 = ([], 200, 0) := by kernel_rfl
theorem w_run4 : Ev.runT w2T w2V 9 0 = ([], 201, 0) := by kernel_rfl
theorem run1_cells {w w' : World} {e : Ending} (h : RunR ([⟨0, false, zeroVa, mkB [97]⟩, ⟨13, true, ⟨wI 1, .nil⟩, .empty⟩, ⟨13, true, ⟨wI 2, .nil⟩, .empty⟩], 0, 0) w e w') :
 Below w.heap.size w w' ∧ ∃ b o c, e = .returned (.tuple #[.slice (some ⟨b, o, none⟩) 3 c, .int .i64 0, .int .i64 0]) ∧ 3 ≤ c ∧ b < w'.heap.size ∧ w'.cell? ⟨b, o + 2, none⟩ = some (.string ⟨#[97]⟩) ∧ w'.cell? ⟨b, o + 20 + 1, none⟩ = some (.bool true) ∧ w'.cell? ⟨b, o + 20 + 3 + 2, none⟩ = some (.int .i64 2) := by
 obtain ⟨h1, a, c, rfl, a', c', he, h2, h3, h4⟩ := h
 cases he
 obtain ⟨b, o, rfl, hb, ⟨-, -, k1⟩, -, -, -, ⟨-, k2, -⟩, ⟨⟨-, -, k3, -⟩, -⟩, -⟩ := h4 (by simp)
 exact ⟨h1, b, o, c, rfl, h2, hb.2.1, k1, k2, k3⟩
theorem w1V_in (N : Nat) (W : World) (n1 : W.heap[N + 1]? = some (.cells #[.string ⟨#[108]⟩] 9 (0, 0))) (n2 : W.heap[N + 2]? = some (.cells #[.int .u8 3, .bool false, .int .i64 1, .int .u64 0, .string ⟨#[]⟩, .slice none 0 0, .slice none 0 0, .int .u8 3, .bool false, .int .i64 2, .int .u64 0, .string ⟨#[]⟩, .slice none 0 0, .slice none 0 0] 31 (0, 0))) (n3 : W.heap[N + 3]? = some (.cells #[.int .u8 6, .bool false, .int .i64 0, .int .u64 0, .string ⟨#[]⟩, .slice none 0 0, .slice (some ⟨N + 2, 0, none⟩) 2 2] 31 (0, 0))) :
 ValS (· < W.heap.size) W w1V (some ⟨N + 1, 0, none⟩) 1 (some ⟨N + 3, 0, none⟩) 1 := by
 have c1 := fun j => cell_of_heap' n1 j
 have c2 := fun j => cell_of_heap' n2 j
 have c3 := fun j => cell_of_heap' n3 j
 refine ⟨⟨_, _, rfl, Nat.le_refl _, by decide, fun _ => ⟨N + 1, 0, rfl, lt_of_block n1, fun i s hi => ?_⟩⟩, ⟨_, _, rfl, Nat.le_refl _, by decide, fun _ => ⟨N + 3, 0, rfl, lt_of_block n3,
  ⟨⟨c3 0, c3 1, c3 2, c3 3, c3 4, _, c3 5, Strs.nil _ _⟩, ⟨_, _, c3 6, Nat.le_refl _, by decide, fun _ => ⟨N + 2, 0, rfl, lt_of_block n2,
    ⟨⟨c2 0, c2 1, c2 2, c2 3, c2 4, _, c2 5, Strs.nil _ _⟩, ⟨_, _, c2 6, Nat.le_refl _, by decide, fun h => absurd rfl h⟩,
     ⟨⟨c2 7, c2 8, c2 9, c2 10, c2 11, _, c2 12, Strs.nil _ _⟩, ⟨_, _, c2 13, Nat.le_refl _, by decide, fun h => absurd rfl h⟩, trivial⟩⟩⟩⟩, trivial⟩⟩⟩⟩
 cases i with
 | zero =>
   obtain rfl : (⟨#[108]⟩ : ByteArray) = s := by simpa [w1V] using hi
   exact c1 0
 | succ i => simp [w1V] at hi
set_option maxRecDepth 100000 in
set_option maxHeartbeats 20000000 in
theorem works_calls (w : World) (hg : Gd w) : Calls Tryz.prog 8 #[] w fun e w' => e = .returned (.bool true) ∧ Below w.heap.size w w' := by
 have PC1 : Hid (∀ W, Below w.heap.size w W → Calls Tryz.prog 26 #[.string w1S] W (ParseR W (.ok w1T))) := fun W hW => by
  have := parse_good (fun _ => none) w1S (by decide) w1_valid rfl W (hg.below hW); rwa [w1_parse] at this
 have PC2 : Hid (∀ W, Below w.heap.size w W → Calls Tryz.prog 26 #[.string w2S] W (ParseR W (.ok w2T))) := fun W hW => by
  have := parse_good (fun _ => none) w2S (by decide) w2_valid rfl W (hg.below hW); rwa [w2_parse] at this
 have GW : Hid (∀ W, Below w.heap.size w W → Gd W) := fun W hW => hg.below hW
 unfold w1S at PC1
 unfold w2S at PC2
 clear hg
 go_enter Tryz.func8, Tryz.ntmps8
 go_wp2_with fail
 refine (PC1.out _ (Below.refl _ _)).mono ?_
 rintro e w1 ⟨hb1, vm, vd, rfl, hvm, hvd⟩
 obtain ⟨am, cm, rfl, -⟩ := id hvm
 obtain ⟨ad, cd, rfl, -⟩ := id hvd
 have HB1 := Lib.hid hb1
 have HVM := Lib.hid hvm
 have HVD := Lib.hid hvd
 clear hb1 hvm hvd
 have HT : Hid (∀ W0, (((((w1.alloc (.cells #[.slice am w1T.main.len cm, .slice ad w1T.defs.length cd] 25)).alloc (.cells #[.string ⟨#[108]⟩] 9)).alloc (.cells #[.int .u8 3, .bool false, .int .i64 1, .int .u64 0, .string ⟨#[]⟩, .slice none 0 0, .slice none 0 0, .int .u8 3, .bool false, .int .i64 2, .int .u64 0, .string ⟨#[]⟩, .slice none 0 0, .slice none 0 0] 31)).alloc (.cells #[.int .u8 6, .bool false, .int .i64 0, .int .u64 0, .string ⟨#[]⟩, .slice none 0 0, .slice (some ⟨w1.heap.size + 2, 0, none⟩) 2 2] 31)).alloc (.cells #[.int .u8 7, .bool false, .int .i64 0, .int .u64 0, .string ⟨#[]⟩, .slice (some ⟨w1.heap.size + 1, 0, none⟩) 1 1, .slice (some ⟨w1.heap.size + 3, 0, none⟩) 1 1] 31)) = W0 → Below w1.heap.size w1 W0 ∧ W0.heap.size = w1.heap.size + 5 ∧ W0.heap[w1.heap.size]? = some (.cells #[.slice am w1T.main.len cm, .slice ad w1T.defs.length cd] 25 (0, 0)) ∧ W0.heap[w1.heap.size + 4]? = some (.cells #[.int .u8 7, .bool false, .int .i64 0, .int .u64 0, .string ⟨#[]⟩, .slice (some ⟨w1.heap.size + 1, 0, none⟩) 1 1, .slice (some ⟨w1.heap.size + 3, 0, none⟩) 1 1] 31 (0, 0)) ∧ ValS (· < W0.heap.size) W0 w1V (some ⟨w1.heap.size + 1, 0, none⟩) 1 (some ⟨w1.heap.size + 3, 0, none⟩) 1) := by
  rintro W0 rfl
  have n0 := heap_alloc_new w1 (.cells #[.slice am w1T.main.len cm, .slice ad w1T.defs.length cd] 25)
  have n1 := heap_alloc_new (w1.alloc (.cells #[.slice am w1T.main.len cm, .slice ad w1T.defs.length cd] 25)) (.cells #[.string ⟨#[108]⟩] 9)
  have n2 := heap_alloc_new ((w1.alloc (.cells #[.slice am w1T.main.len cm, .slice ad w1T.defs.length cd] 25)).alloc (.cells #[.string ⟨#[108]⟩] 9)) (.cells #[.int .u8 3, .bool false, .int .i64 1, .int .u64 0, .string ⟨#[]⟩, .slice none 0 0, .slice none 0 0, .int .u8 3, .bool false, .int .i64 2, .int .u64 0, .string ⟨#[]⟩, .slice none 0 0, .slice none 0 0] 31)
  have n3 := heap_alloc_new (((w1.alloc (.cells #[.slice am w1T.main.len cm, .slice ad w1T.defs.length cd] 25)).alloc (.cells #[.string ⟨#[108]⟩] 9)).alloc (.cells #[.int .u8 3, .bool false, .int .i64 1, .int .u64 0, .string ⟨#[]⟩, .slice none 0 0, .slice none 0 0, .int .u8 3, .bool false, .int .i64 2, .int .u64 0, .string ⟨#[]⟩, .slice none 0 0, .slice none 0 0] 31)) (.cells #[.int .u8 6, .bool false, .int .i64 0, .int .u64 0, .string ⟨#[]⟩, .slice none 0 0, .slice (some ⟨w1.heap.size + 2, 0, none⟩) 2 2] 31)
  have n4 := heap_alloc_new ((((w1.alloc (.cells #[.slice am w1T.main.len cm, .slice ad w1T.defs.length cd] 25)).alloc (.cells #[.string ⟨#[108]⟩] 9)).alloc (.cells #[.int .u8 3, .bool false, .int .i64 1, .int .u64 0, .string ⟨#[]⟩, .slice none 0 0, .slice none 0 0, .int .u8 3, .bool false, .int .i64 2, .int .u64 0, .string ⟨#[]⟩, .slice none 0 0, .slice none 0 0] 31)).alloc (.cells #[.int .u8 6, .bool false, .int .i64 0, .int .u64 0, .string ⟨#[]⟩, .slice none 0 0, .slice (some ⟨w1.heap.size + 2, 0, none⟩) 2 2] 31)) (.cells #[.int .u8 7, .bool false, .int .i64 0, .int .u64 0, .string ⟨#[]⟩, .slice (some ⟨w1.heap.size + 1, 0, none⟩) 1 1, .slice (some ⟨w1.heap.size + 3, 0, none⟩) 1 1] 31)
  simp only [World.size_alloc, Nat.add_assoc, Nat.reduceAdd] at n1 n2 n3 n4
  refine ⟨(((((Below.refl _ w1).alloc (Nat.le_refl _) _).alloc (by simp) _).alloc (by simp <;> omega) _).alloc (by simp <;> omega) _).alloc (by simp <;> omega) _, by simp, ?_, n4, w1V_in _ _ ?_ ?_ ?_⟩
  · exact (Below.heap_alloc _ _ _ (by simp <;> omega)).trans ((Below.heap_alloc _ _ _ (by simp <;> omega)).trans ((Below.heap_alloc _ _ _ (by simp <;> omega)).trans ((Below.heap_alloc _ _ _ (by simp)).trans n0)))
  · exact (Below.heap_alloc _ _ _ (by simp <;> omega)).trans ((Below.heap_alloc _ _ _ (by simp <;> omega)).trans ((Below.heap_alloc _ _ _ (by simp)).trans n1))
  · exact (Below.heap_alloc _ _ _ (by simp <;> omega)).trans ((Below.heap_alloc _ _ _ (by simp)).trans n2)
  · exact (Below.heap_alloc _ _ _ (by simp)).trans n3
 go_wp2_with fail
 try simp only [Nat.add_assoc, Nat.reduceAdd]
 generalize hWW : World.alloc (World.alloc (World.alloc (World.alloc (World.alloc w1 _) _) _) _) _ = w2 at *
 obtain ⟨hb2, hz2, ht2, hv2, hvs2⟩ := HT.out w2 rfl
 clear hWW HT
 have HB2 : Hid (Below w.heap.size w w2) := HB1.out.trans (hb2.mono HB1.out.size)
 have HT2 := Lib.hid ht2
 have HV2 := Lib.hid hv2
 have RC : Hid (∀ W f, Below w2.heap.size w2 W → Calls Tryz.prog 12 #[.agg #[.slice am w1T.main.len cm, .slice ad w1T.defs.length cd], .agg #[.int .u8 7, .bool false, .int .i64 0, .int .u64 0, .string ⟨#[]⟩, .slice (some ⟨w1.heap.size + 1, 0, none⟩) 1 1, .slice (some ⟨w1.heap.size + 3, 0, none⟩) 1 1], .int .i64 f, .int .i64 0] W (RunR (Ev.runT w1T w1V f 0) W)) := fun W f hW => by
  have hk : ∀ b, b < w2.heap.size → b < W.heap.size := fun b hb => Nat.lt_of_lt_of_le hb hW.size
  exact run_calls w1T w1_z w1V w1V_sm f 0 am ad _ _ cm cd 1 1 W (GW.out _ (HB2.out.trans (hW.mono HB2.out.size))) ((HVM.out.kept (fun b hb => (hW.block b (by omega)).trans (hb2.block b hb.2))).mono fun b hb => hk b (by omega)) ((HVD.out.kept (fun b hb => (hW.block b (by omega)).trans (hb2.block b hb.2))).mono fun b hb => hk b (by omega)) ((hvs2.kept (fun b hb => hW.block b hb)).mono hk)
 have RV : Hid (∀ W vm vd, Below w2.heap.size w2 W → Parts (· < W.heap.size) W vm w2T.main → Defs (· < W.heap.size) W vd w2T.defs → Calls Tryz.prog 12 #[.agg #[vm, vd], .agg #[.int .u8 7, .bool false, .int .i64 0, .int .u64 0, .string ⟨#[]⟩, .slice (some ⟨w1.heap.size + 1, 0, none⟩) 1 1, .slice (some ⟨w1.heap.size + 3, 0, none⟩) 1 1], .int .i64 9, .int .i64 0] W (RunR (Ev.runT w2T w1V 9 0) W)) := fun W vm vd hW hm hd => by
  have hk : ∀ b, b < w2.heap.size → b < W.heap.size := fun b hb => Nat.lt_of_lt_of_le hb hW.size
  obtain ⟨a, c, rfl, -⟩ := id hm
  obtain ⟨a', c', rfl, -⟩ := id hd
  exact run_calls w2T w2_z w1V w1V_sm 9 0 a a' _ _ c c' 1 1 W (GW.out _ (HB2.out.trans (hW.mono HB2.out.size))) hm hd ((hvs2.kept (fun b hb => hW.block b hb)).mono hk)
 have RU : Hid (∀ W vm vd, Below w2.heap.size w2 W → Parts (· < W.heap.size) W vm w2T.main → Defs (· < W.heap.size) W vd w2T.defs → Calls Tryz.prog 12 #[.agg #[vm, vd], .agg #[.int .u8 3, .bool false, .int .i64 0, .int .u64 0, .string ⟨#[]⟩, .slice none 0 0, .slice none 0 0], .int .i64 9, .int .i64 0] W (RunR (Ev.runT w2T w2V 9 0) W)) := fun W vm vd hW hm hd => by
  obtain ⟨a, c, rfl, -⟩ := id hm
  obtain ⟨a', c', rfl, -⟩ := id hd
  exact run_calls w2T w2_z w2V w2V_sm 9 0 a a' none none c c' 0 0 W (GW.out _ (HB2.out.trans (hW.mono HB2.out.size))) hm hd ⟨Strs.nil _ _, Vals.nil _ _⟩
 clear hb2 ht2 hv2 hvs2 HVM HVD
 refine (RC.out w2 100 (Below.refl _ _)).mono ?_
 rintro e w3 hr3
 rw [w_run1] at hr3
 obtain ⟨hb3, b, o, c, rfl, hc3, hbl, k1, k2, k3⟩ := run1_cells hr3
 have HB3 := Lib.hid hb3
 have HK1 := Lib.hid k1
 have HK2 := Lib.hid k2
 have HK3 := Lib.hid k3
 have HT3 := Lib.hid ((hb3.block _ (by omega)).trans HT2.out)
 have HV3 := Lib.hid ((hb3.block _ (by omega)).trans HV2.out)
 have hz3 : w1.heap.size + 5 ≤ w3.heap.size := by have := hb3.size; omega
 clear hb3 k1 k2 k3 hr3
 have t0 : w3.cell? ⟨w1.heap.size, 0, none⟩ = some (.slice am w1T.main.len cm) := by rw [cell_of_heap' HT3.out]; rfl
 have t1 : w3.cell? ⟨w1.heap.size, 1, none⟩ = some (.slice ad w1T.defs.length cd) := by rw [cell_of_heap' HT3.out]; rfl
 have v0 : w3.cell? ⟨w1.heap.size + 4, 0, none⟩ = some (.int .u8 7) := by rw [cell_of_heap' HV3.out]; rfl
 have v1 : w3.cell? ⟨w1.heap.size + 4, 1, none⟩ = some (.bool false) := by rw [cell_of_heap' HV3.out]; rfl
 have v2 : w3.cell? ⟨w1.heap.size + 4, 2, none⟩ = some (.int .i64 0) := by rw [cell_of_heap' HV3.out]; rfl
 have v3 : w3.cell? ⟨w1.heap.size + 4, 3, none⟩ = some (.int .u64 0) := by rw [cell_of_heap' HV3.out]; rfl
 have v4 : w3.cell? ⟨w1.heap.size + 4, 4, none⟩ = some (.string ⟨#[]⟩) := by rw [cell_of_heap' HV3.out]; rfl
 have v5 : w3.cell? ⟨w1.heap.size + 4, 5, none⟩ = some (.slice (some ⟨w1.heap.size + 1, 0, none⟩) 1 1) := by rw [cell_of_heap' HV3.out]; rfl
 have v6 : w3.cell? ⟨w1.heap.size + 4, 6, none⟩ = some (.slice (some ⟨w1.heap.size + 3, 0, none⟩) 1 1) := by rw [cell_of_heap' HV3.out]; rfl
 go_wp2_with fail
 refine (RC.out w3 4 HB3.out).mono ?_
 rintro e w4 hr4
 rw [w_run2] at hr4
 obtain ⟨hb4, a4, c4, rfl, -⟩ := hr4
 have HB34 := Lib.hid hb4
 have HB4 := Lib.hid (HB3.out.trans (hb4.mono HB3.out.size))
 have HV4 := Lib.hid ((hb4.block _ (by omega)).trans HV3.out)
 clear hb4 t0 t1 v0 v1 v2 v3 v4 v5 v6
 go_wp2_with fail
 refine (PC2.out _ (HB2.out.trans (HB4.out.mono HB2.out.size))).mono ?_
 rintro e w5 ⟨hb5, QM, QD, rfl, hm5, hd5⟩
 obtain ⟨am5, cm5, rfl, -⟩ := id hm5
 obtain ⟨ad5, cd5, rfl, -⟩ := id hd5
 have HB35 := Lib.hid (HB34.out.trans (hb5.mono HB34.out.size))
 have HB5 := Lib.hid (HB4.out.trans (hb5.mono HB4.out.size))
 have HV5 := Lib.hid ((hb5.block _ (by have := HB34.out.size; omega)).trans HV4.out)
 have HM5 := Lib.hid hm5
 have HD5 := Lib.hid hd5
 have hz5 : w1.heap.size + 4 < w5.heap.size := by have := HB35.out.size; omega
 clear hb5 hm5 hd5
 have v0 : w5.cell? ⟨w1.heap.size + 4, 0, none⟩ = some (.int .u8 7) := by rw [cell_of_heap' HV5.out]; rfl
 have v1 : w5.cell? ⟨w1.heap.size + 4, 1, none⟩ = some (.bool false) := by rw [cell_of_heap' HV5.out]; rfl
 have v2 : w5.cell? ⟨w1.heap.size + 4, 2, none⟩ = some (.int .i64 0) := by rw [cell_of_heap' HV5.out]; rfl
 have v3 : w5.cell? ⟨w1.heap.size + 4, 3, none⟩ = some (.int .u64 0) := by rw [cell_of_heap' HV5.out]; rfl
 have v4 : w5.cell? ⟨w1.heap.size + 4, 4, none⟩ = some (.string ⟨#[]⟩) := by rw [cell_of_heap' HV5.out]; rfl
 have v5 : w5.cell? ⟨w1.heap.size + 4, 5, none⟩ = some (.slice (some ⟨w1.heap.size + 1, 0, none⟩) 1 1) := by rw [cell_of_heap' HV5.out]; rfl
 have v6 : w5.cell? ⟨w1.heap.size + 4, 6, none⟩ = some (.slice (some ⟨w1.heap.size + 3, 0, none⟩) 1 1) := by rw [cell_of_heap' HV5.out]; rfl
 have HA5 : Hid (Below w5.heap.size w5 (w5.alloc (.cells #[.slice am5 w2T.main.len cm5, .slice ad5 w2T.defs.length cd5] 25))) := (Below.refl _ w5).alloc (Nat.le_refl _) _
 have HU5 : Hid ((w5.alloc (.cells #[.slice am5 w2T.main.len cm5, .slice ad5 w2T.defs.length cd5] 25)).heap[w5.heap.size]? = some (.cells #[.slice am5 w2T.main.len cm5, .slice ad5 w2T.defs.length cd5] 25 (0, 0))) := heap_alloc_new w5 _
 go_wp2_with fail
 generalize hWW : World.alloc w5 _ = w6 at *
 clear hWW v0 v1 v2 v3 v4 v5 v6
 have HB6 := Lib.hid (HB5.out.trans (HA5.out.mono HB5.out.size))
 refine (RV.out w6 (.slice am5 w2T.main.len cm5) (.slice ad5 w2T.defs.length cd5) HB6.out ((HM5.out.kept (fun b hb => HA5.out.block b hb.2)).mono fun b hb => by have := HA5.out.size; omega) ((HD5.out.kept (fun b hb => HA5.out.block b hb.2)).mono fun b hb => by have := HA5.out.size; omega)).mono ?_
 rintro e w7 hr7
 rw [w_run3] at hr7
 obtain ⟨hb7, a7, c7, rfl, -⟩ := hr7
 have HB57 := Lib.hid (HA5.out.trans (hb7.mono HA5.out.size))
 have HB7 := Lib.hid (HB6.out.trans (hb7.mono HB6.out.size))
 have HU7 := Lib.hid ((hb7.block _ (lt_of_block HU5.out)).trans HU5.out)
 clear hb7
 have t0 : w7.cell? ⟨w5.heap.size, 0, none⟩ = some (.slice am5 w2T.main.len cm5) := by rw [cell_of_heap' HU7.out]; rfl
 have t1 : w7.cell? ⟨w5.heap.size, 1, none⟩ = some (.slice ad5 w2T.defs.length cd5) := by rw [cell_of_heap' HU7.out]; rfl
 go_wp2_with fail
 refine (RU.out w7 (.slice am5 w2T.main.len cm5) (.slice ad5 w2T.defs.length cd5) HB7.out ((HM5.out.kept (fun b hb => HB57.out.block b hb.2)).mono fun b hb => by have := HB57.out.size; omega) ((HD5.out.kept (fun b hb => HB57.out.block b hb.2)).mono fun b hb => by have := HB57.out.size; omega)).mono ?_
 rintro e w8 hr8
 rw [w_run4] at hr8
 obtain ⟨hb8, a8, c8, rfl, -⟩ := hr8
 have HB38 : Hid (Below w3.heap.size w3 w8) := HB35.out.trans ((HB57.out.trans (hb8.mono HB57.out.size)).mono HB35.out.size)
 have HB8 : Hid (Below w.heap.size w w8) := HB2.out.trans ((HB7.out.trans (hb8.mono HB7.out.size)).mono HB2.out.size)
 clear hb8 t0 t1
 have k1 := (HB38.out.cell (p := ⟨b, _, none⟩) hbl).trans HK1.out
 have k2 := (HB38.out.cell (p := ⟨b, _, none⟩) hbl).trans HK2.out
 have k3 := (HB38.out.cell (p := ⟨b, _, none⟩) hbl).trans HK3.out
 dsimp only [List.length_cons, List.length_nil]
 go_wp2_with fail
 go_ret
 exact ⟨rfl, HB8.out⟩
end Go.Proofs.YtepcpgdfbaklfaaGreatDoor
