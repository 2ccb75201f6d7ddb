/- The contract of runner.part where there is no fuel, and at a text. No condition but the run's form in memory. -/
import Derived.Test.YtepcpgdfbaklfaaGreatDoorMcG3
set_option linter.unusedSimpArgs false
set_option linter.unusedVariables false
namespace Go.Proofs.YtepcpgdfbaklfaaGreatDoor
open Go.RowKit Go.Shelf Ev
attribute [local go_sem ↓] Go.wp_at_zero Go.wp_at_succ
theorem off_refl (S : Nat → Prop) (w : World) : Off S w w.drew := ⟨rfl, rfl, rfl, Nat.le_refl _, fun _ _ => rfl⟩
set_option maxRecDepth 100000 in
set_option maxHeartbeats 40000000 in
theorem part_none (D : ByteArray → Pt) (C l rb mb : Nat) (J : (Nat → Prop) → List It → World → Prop) (HJ : Lies J) (dot root : Va) (h : Hd) (kd el : Pt) (deep : Nat) (S : Nat → Prop) (pre : List It) (W : World) (a1 a2 a3 a4 an ak ae : Option Addr) (c1 c2 c3 c4 cn ck ce : Nat) (hcap : pre.length + 0 ≤ 1000000) (hdc : deep ≤ C) (hsh : h.sm) (hsk : kd.sm) (hse : el.sm) (hck : kd.cnt ≤ 16777216) (hce : el.cnt ≤ 16777216) (hrun : RunA D C l rb mb S 0 W) (hJ : J S pre W) (hok : Okd S rb W dot root a1 a2 a3 a4 c1 c2 c3 c4) (hst : Strs (okS S rb W) W (.slice an h.names.length cn) h.names) (hk : Parts (okS S rb W) W (.slice ak kd.len ck) kd) (he : Parts (okS S rb W) W (.slice ae el.len ce) el) :
 Calls Tryz.prog 91 #[.agg #[.int .u8 (dot.h.kind : Nat), .bool dot.h.b, .int .i64 dot.h.n, .int .u64 (dot.h.bits : Nat), .string dot.h.text, .slice a1 dot.h.keys.length c1, .slice a2 dot.items.len c2, .int .u8 (root.h.kind : Nat), .bool root.h.b, .int .i64 root.h.n, .int .u64 (root.h.bits : Nat), .string root.h.text, .slice a3 root.h.keys.length c3, .slice a4 root.items.len c4, .int .i64 (deep : Nat), .pointer (some ⟨rb, 0, none⟩)], .agg #[.int .u8 (h.kind : Nat), .int .i64 h.pos, .string h.text, .bool h.root, .slice an h.names.length cn, .string h.name, .slice ak kd.len ck, .slice ae el.len ce]] W (EvP C l rb mb J ⟨[], 0, some (202, h.pos)⟩ S pre W) := by
 have HB0 : Hid (Below W.heap.size W ((W.alloc (.cells #[.int .u8 (dot.h.kind : Nat), .bool dot.h.b, .int .i64 dot.h.n, .int .u64 (dot.h.bits : Nat), .string dot.h.text, .slice a1 dot.h.keys.length c1, .slice a2 dot.items.len c2, .int .u8 (root.h.kind : Nat), .bool root.h.b, .int .i64 root.h.n, .int .u64 (root.h.bits : Nat), .string root.h.text, .slice a3 root.h.keys.length c3, .slice a4 root.items.len c4, .int .i64 (deep : Nat), .pointer (some ⟨rb, 0, none⟩)] 120)).alloc (.cells #[.int .u8 (h.kind : Nat), .int .i64 h.pos, .string h.text, .bool h.root, .slice an h.names.length cn, .string h.name, .slice ak kd.len ck, .slice ae el.len ce] 56))) := (((Below.refl _ W).alloc (Nat.le_refl _) _).alloc (by simp) _)
 have HS0 : Hid (((W.alloc (.cells #[.int .u8 (dot.h.kind : Nat), .bool dot.h.b, .int .i64 dot.h.n, .int .u64 (dot.h.bits : Nat), .string dot.h.text, .slice a1 dot.h.keys.length c1, .slice a2 dot.items.len c2, .int .u8 (root.h.kind : Nat), .bool root.h.b, .int .i64 root.h.n, .int .u64 (root.h.bits : Nat), .string root.h.text, .slice a3 root.h.keys.length c3, .slice a4 root.items.len c4, .int .i64 (deep : Nat), .pointer (some ⟨rb, 0, none⟩)] 120)).alloc (.cells #[.int .u8 (h.kind : Nat), .int .i64 h.pos, .string h.text, .bool h.root, .slice an h.names.length cn, .string h.name, .slice ak kd.len ck, .slice ae el.len ce] 56)).heap.size = W.heap.size + 2) := by unfold Hid; simp
 have HT : Hid (∀ W0, ((W.alloc (.cells #[.int .u8 (dot.h.kind : Nat), .bool dot.h.b, .int .i64 dot.h.n, .int .u64 (dot.h.bits : Nat), .string dot.h.text, .slice a1 dot.h.keys.length c1, .slice a2 dot.items.len c2, .int .u8 (root.h.kind : Nat), .bool root.h.b, .int .i64 root.h.n, .int .u64 (root.h.bits : Nat), .string root.h.text, .slice a3 root.h.keys.length c3, .slice a4 root.items.len c4, .int .i64 (deep : Nat), .pointer (some ⟨rb, 0, none⟩)] 120)).alloc (.cells #[.int .u8 (h.kind : Nat), .int .i64 h.pos, .string h.text, .bool h.root, .slice an h.names.length cn, .string h.name, .slice ak kd.len ck, .slice ae el.len ce] 56)) = W0 → W0.heap[W.heap.size]? = some (.cells #[.int .u8 (dot.h.kind : Nat), .bool dot.h.b, .int .i64 dot.h.n, .int .u64 (dot.h.bits : Nat), .string dot.h.text, .slice a1 dot.h.keys.length c1, .slice a2 dot.items.len c2, .int .u8 (root.h.kind : Nat), .bool root.h.b, .int .i64 root.h.n, .int .u64 (root.h.bits : Nat), .string root.h.text, .slice a3 root.h.keys.length c3, .slice a4 root.items.len c4, .int .i64 (deep : Nat), .pointer (some ⟨rb, 0, none⟩)] 120 (0, 0)) ∧ W0.heap[W.heap.size + 1]? = some (.cells #[.int .u8 (h.kind : Nat), .int .i64 h.pos, .string h.text, .bool h.root, .slice an h.names.length cn, .string h.name, .slice ak kd.len ck, .slice ae el.len ce] 56 (0, 0))) := by
  rintro W0 rfl
  have s1 : (W.alloc (.cells #[.int .u8 (dot.h.kind : Nat), .bool dot.h.b, .int .i64 dot.h.n, .int .u64 (dot.h.bits : Nat), .string dot.h.text, .slice a1 dot.h.keys.length c1, .slice a2 dot.items.len c2, .int .u8 (root.h.kind : Nat), .bool root.h.b, .int .i64 root.h.n, .int .u64 (root.h.bits : Nat), .string root.h.text, .slice a3 root.h.keys.length c3, .slice a4 root.items.len c4, .int .i64 (deep : Nat), .pointer (some ⟨rb, 0, none⟩)] 120 (0, 0))).heap.size = W.heap.size + 1 := by simp
  refine ⟨?_, ?_⟩
  · rw [Below.heap_alloc _ _ _ (by omega)]
    exact heap_alloc_new W _
  · skip
    have := heap_alloc_new (W.alloc (.cells #[.int .u8 (dot.h.kind : Nat), .bool dot.h.b, .int .i64 dot.h.n, .int .u64 (dot.h.bits : Nat), .string dot.h.text, .slice a1 dot.h.keys.length c1, .slice a2 dot.items.len c2, .int .u8 (root.h.kind : Nat), .bool root.h.b, .int .i64 root.h.n, .int .u64 (root.h.bits : Nat), .string root.h.text, .slice a3 root.h.keys.length c3, .slice a4 root.items.len c4, .int .i64 (deep : Nat), .pointer (some ⟨rb, 0, none⟩)] 120 (0, 0))) (.cells #[.int .u8 (h.kind : Nat), .int .i64 h.pos, .string h.text, .bool h.root, .slice an h.names.length cn, .string h.name, .slice ak kd.len ck, .slice ae el.len ce] 56 (0, 0)); rwa [s1] at this
 have hst0 := hrun.stp HB0.out
 have HST0 := Lib.hid hst0
 have HRUN0 := Lib.hid (hrun.below HB0.out)
 have HJ0 := Lib.hid (HJ _ _ _ _ hJ (off_below hrun.lt HB0.out))
 have HJJ := Lib.hid HJ
 have HRUNW := Lib.hid hrun
 have HOKW := Lib.hid hok
 have HSTW := Lib.hid hst
 have HKDW := Lib.hid hk
 have HELW := Lib.hid he
 have HSH := Lib.hid hsh
 clear hst0 hrun hJ hok hst hk he HJ hsh
 go_enter Tryz.func91, Tryz.ntmps91
 go_upto_region 1 with (fail)
 try simp only [Nat.add_assoc, Nat.reduceAdd]
 generalize hWW : World.alloc (World.alloc W _) _ = W0 at *
 obtain ⟨hr0, hp0⟩ := HT.out W0 rfl
 clear hWW HT
 have hz0 : W0.heap.size = W.heap.size + 2 := HS0.out
 have HR0 := Lib.hid hr0
 have HP0 := Lib.hid hp0
 have BC : Hid (Calls Tryz.prog 129 #[.agg #[.int .u8 (dot.h.kind : Nat), .bool dot.h.b, .int .i64 dot.h.n, .int .u64 (dot.h.bits : Nat), .string dot.h.text, .slice a1 dot.h.keys.length c1, .slice a2 dot.items.len c2, .int .u8 (root.h.kind : Nat), .bool root.h.b, .int .i64 root.h.n, .int .u64 (root.h.bits : Nat), .string root.h.text, .slice a3 root.h.keys.length c3, .slice a4 root.items.len c4, .int .i64 (deep : Nat), .pointer (some ⟨rb, 0, none⟩)], .agg #[.int .u8 (h.kind : Nat), .int .i64 h.pos, .string h.text, .bool h.root, .slice an h.names.length cn, .string h.name, .slice ak kd.len ck, .slice ae el.len ce]] W0 (BuP mb C l rb h.pos W0 0)) :=
  burn_calls dot root h deep rb mb C l 0 HRUN0.out.fl a1 a2 a3 a4 an ak ae c1 c2 c3 c4 cn kd.len ck el.len ce W0 HRUN0.out.rest
 obtain ⟨q0, q1, q2, q3, q4, q5, q6, q7, q8, q9, q10, q11, q12, q13, q14, q15⟩ := runCs (P := W.heap.size) (dot := dot) (root := root) (a1 := a1) (a2 := a2) (a3 := a3) (a4 := a4) (c1 := c1) (c2 := c2) (c3 := c3) (c4 := c4) (deep := deep) (rb := rb) hr0
 obtain ⟨p0, p1, p2, p3, p4, p5, p6, p7⟩ := pcCs (P := W.heap.size + 1) (h := h) hp0
 clear hr0 hp0
 go_wp2_with fail
 refine BC.out.mono ?_
 rintro e w1 ⟨rfl, hb1⟩
 have HJ1 := Lib.hid (HJJ.out _ _ _ _ HJ0.out (off_below HRUN0.out.lt hb1))
 have HST1 := Lib.hid (HST0.out.trans (HRUN0.out.stp hb1))
 clear hb1 BC
 go_wp2_with fail
 exact ⟨rfl, S, [], by rw [List.append_nil]; exact HJ1.out, rfl, HST1.out, rfl⟩
theorem sm_zero : Va.sm zeroVa := ⟨⟨by decide, by decide, by decide, by decide, by decide, by decide, fun n hn => by cases hn⟩, trivial, by decide⟩
def itText (h : Hd) : It := ⟨⟨h.pos, false, zeroVa, h.text⟩, none, 0, none, 0, fun _ => False⟩
def tvals (h : Hd) (R0 rb l : Nat) (i : Nat) : Value := match i with
 | 0 => .pointer (some ⟨R0, 15, none⟩)
 | 1 => .pointer (some ⟨rb, 0, none⟩)
 | 2 => .pointer (some ⟨rb, 0, none⟩)
 | 3 => .pointer (some ⟨rb, 3, none⟩)
 | 4 => .func (.yield l) #[] #[]
 | 5 => .pointer (some ⟨R0 + 1, 1, none⟩)
 | 6 => .int .i64 h.pos
 | 7 => .pointer (some ⟨R0 + 1, 2, none⟩)
 | 8 => .string h.text
 | 9 => .agg #[.int .i64 h.pos, .bool false, .string h.text, .int .u8 0, .bool false, .int .i64 0, .int .u64 0, .string ⟨#[]⟩, .slice none 0 0, .slice none 0 0]
 | _ => .bool true
set_option maxRecDepth 100000 in
set_option maxHeartbeats 40000000 in
theorem part_text (D : ByteArray → Pt) (C l rb mb : Nat) (J : (Nat → Prop) → List It → World → Prop) (HJ : Lies J) (HY : YieldS l mb J) (dot root : Va) (h : Hd) (kd el : Pt) (deep f : Nat) (S : Nat → Prop) (pre : List It) (W : World) (a1 a2 a3 a4 an ak ae : Option Addr) (c1 c2 c3 c4 cn ck ce : Nat) (hcap : pre.length + (f + 1) ≤ 1000000) (hdc : deep ≤ C) (hsh : h.sm) (hsk : kd.sm) (hse : el.sm) (hck : kd.cnt ≤ 16777216) (hce : el.cnt ≤ 16777216) (hrun : RunA D C l rb mb S (f + 1) W) (hJ : J S pre W) (hok : Okd S rb W dot root a1 a2 a3 a4 c1 c2 c3 c4) (hst : Strs (okS S rb W) W (.slice an h.names.length cn) h.names) (hk : Parts (okS S rb W) W (.slice ak kd.len ck) kd) (he : Parts (okS S rb W) W (.slice ae el.len ce) el) (hk0 : h.kind = 1) :
 Calls Tryz.prog 91 #[.agg #[.int .u8 (dot.h.kind : Nat), .bool dot.h.b, .int .i64 dot.h.n, .int .u64 (dot.h.bits : Nat), .string dot.h.text, .slice a1 dot.h.keys.length c1, .slice a2 dot.items.len c2, .int .u8 (root.h.kind : Nat), .bool root.h.b, .int .i64 root.h.n, .int .u64 (root.h.bits : Nat), .string root.h.text, .slice a3 root.h.keys.length c3, .slice a4 root.items.len c4, .int .i64 (deep : Nat), .pointer (some ⟨rb, 0, none⟩)], .agg #[.int .u8 (h.kind : Nat), .int .i64 h.pos, .string h.text, .bool h.root, .slice an h.names.length cn, .string h.name, .slice ak kd.len ck, .slice ae el.len ce]] W (EvP C l rb mb J ⟨[⟨h.pos, false, zeroVa, h.text⟩], f, none⟩ S pre W) := by
 have HYY := Lib.hid HY
 clear HY
 have j1 : ((h.kind : Int) == 1) = true := by rw [hk0]; rfl
 have j2 : ((h.kind : Int) == 2) = false := by rw [hk0]; rfl
 have j3 : ((h.kind : Int) == 3) = false := by rw [hk0]; rfl
 have j4 : ((h.kind : Int) == 4) = false := by rw [hk0]; rfl
 clear hk0
 have HB0 : Hid (Below W.heap.size W ((W.alloc (.cells #[.int .u8 (dot.h.kind : Nat), .bool dot.h.b, .int .i64 dot.h.n, .int .u64 (dot.h.bits : Nat), .string dot.h.text, .slice a1 dot.h.keys.length c1, .slice a2 dot.items.len c2, .int .u8 (root.h.kind : Nat), .bool root.h.b, .int .i64 root.h.n, .int .u64 (root.h.bits : Nat), .string root.h.text, .slice a3 root.h.keys.length c3, .slice a4 root.items.len c4, .int .i64 (deep : Nat), .pointer (some ⟨rb, 0, none⟩)] 120)).alloc (.cells #[.int .u8 (h.kind : Nat), .int .i64 h.pos, .string h.text, .bool h.root, .slice an h.names.length cn, .string h.name, .slice ak kd.len ck, .slice ae el.len ce] 56))) := (((Below.refl _ W).alloc (Nat.le_refl _) _).alloc (by simp) _)
 have HS0 : Hid (((W.alloc (.cells #[.int .u8 (dot.h.kind : Nat), .bool dot.h.b, .int .i64 dot.h.n, .int .u64 (dot.h.bits : Nat), .string dot.h.text, .slice a1 dot.h.keys.length c1, .slice a2 dot.items.len c2, .int .u8 (root.h.kind : Nat), .bool root.h.b, .int .i64 root.h.n, .int .u64 (root.h.bits : Nat), .string root.h.text, .slice a3 root.h.keys.length c3, .slice a4 root.items.len c4, .int .i64 (deep : Nat), .pointer (some ⟨rb, 0, none⟩)] 120)).alloc (.cells #[.int .u8 (h.kind : Nat), .int .i64 h.pos, .string h.text, .bool h.root, .slice an h.names.length cn, .string h.name, .slice ak kd.len ck, .slice ae el.len ce] 56)).heap.size = W.heap.size + 2) := by unfold Hid; simp
 have HT : Hid (∀ W0, ((W.alloc (.cells #[.int .u8 (dot.h.kind : Nat), .bool dot.h.b, .int .i64 dot.h.n, .int .u64 (dot.h.bits : Nat), .string dot.h.text, .slice a1 dot.h.keys.length c1, .slice a2 dot.items.len c2, .int .u8 (root.h.kind : Nat), .bool root.h.b, .int .i64 root.h.n, .int .u64 (root.h.bits : Nat), .string root.h.text, .slice a3 root.h.keys.length c3, .slice a4 root.items.len c4, .int .i64 (deep : Nat), .pointer (some ⟨rb, 0, none⟩)] 120)).alloc (.cells #[.int .u8 (h.kind : Nat), .int .i64 h.pos, .string h.text, .bool h.root, .slice an h.names.length cn, .string h.name, .slice ak kd.len ck, .slice ae el.len ce] 56)) = W0 → W0.heap[W.heap.size]? = some (.cells #[.int .u8 (dot.h.kind : Nat), .bool dot.h.b, .int .i64 dot.h.n, .int .u64 (dot.h.bits : Nat), .string dot.h.text, .slice a1 dot.h.keys.length c1, .slice a2 dot.items.len c2, .int .u8 (root.h.kind : Nat), .bool root.h.b, .int .i64 root.h.n, .int .u64 (root.h.bits : Nat), .string root.h.text, .slice a3 root.h.keys.length c3, .slice a4 root.items.len c4, .int .i64 (deep : Nat), .pointer (some ⟨rb, 0, none⟩)] 120 (0, 0)) ∧ W0.heap[W.heap.size + 1]? = some (.cells #[.int .u8 (h.kind : Nat), .int .i64 h.pos, .string h.text, .bool h.root, .slice an h.names.length cn, .string h.name, .slice ak kd.len ck, .slice ae el.len ce] 56 (0, 0))) := by
  rintro W0 rfl
  have s1 : (W.alloc (.cells #[.int .u8 (dot.h.kind : Nat), .bool dot.h.b, .int .i64 dot.h.n, .int .u64 (dot.h.bits : Nat), .string dot.h.text, .slice a1 dot.h.keys.length c1, .slice a2 dot.items.len c2, .int .u8 (root.h.kind : Nat), .bool root.h.b, .int .i64 root.h.n, .int .u64 (root.h.bits : Nat), .string root.h.text, .slice a3 root.h.keys.length c3, .slice a4 root.items.len c4, .int .i64 (deep : Nat), .pointer (some ⟨rb, 0, none⟩)] 120 (0, 0))).heap.size = W.heap.size + 1 := by simp
  refine ⟨?_, ?_⟩
  · rw [Below.heap_alloc _ _ _ (by omega)]
    exact heap_alloc_new W _
  · skip
    have := heap_alloc_new (W.alloc (.cells #[.int .u8 (dot.h.kind : Nat), .bool dot.h.b, .int .i64 dot.h.n, .int .u64 (dot.h.bits : Nat), .string dot.h.text, .slice a1 dot.h.keys.length c1, .slice a2 dot.items.len c2, .int .u8 (root.h.kind : Nat), .bool root.h.b, .int .i64 root.h.n, .int .u64 (root.h.bits : Nat), .string root.h.text, .slice a3 root.h.keys.length c3, .slice a4 root.items.len c4, .int .i64 (deep : Nat), .pointer (some ⟨rb, 0, none⟩)] 120 (0, 0))) (.cells #[.int .u8 (h.kind : Nat), .int .i64 h.pos, .string h.text, .bool h.root, .slice an h.names.length cn, .string h.name, .slice ak kd.len ck, .slice ae el.len ce] 56 (0, 0)); rwa [s1] at this
 have hst0 := hrun.stp HB0.out
 have HST0 := Lib.hid hst0
 have HRUN0 := Lib.hid (hrun.below HB0.out)
 have HJ0 := Lib.hid (HJ _ _ _ _ hJ (off_below hrun.lt HB0.out))
 have HJJ := Lib.hid HJ
 have HRUNW := Lib.hid hrun
 have HOKW := Lib.hid hok
 have HSTW := Lib.hid hst
 have HKDW := Lib.hid hk
 have HELW := Lib.hid he
 have HSH := Lib.hid hsh
 clear hst0 hrun hJ hok hst hk he HJ hsh
 go_enter Tryz.func91, Tryz.ntmps91
 go_upto_region 1 with (fail)
 try simp only [Nat.add_assoc, Nat.reduceAdd]
 generalize hWW : World.alloc (World.alloc W _) _ = W0 at *
 obtain ⟨hr0, hp0⟩ := HT.out W0 rfl
 clear hWW HT
 have hz0 : W0.heap.size = W.heap.size + 2 := HS0.out
 have HR0 := Lib.hid hr0
 have HP0 := Lib.hid hp0
 have BC : Hid (Calls Tryz.prog 129 #[.agg #[.int .u8 (dot.h.kind : Nat), .bool dot.h.b, .int .i64 dot.h.n, .int .u64 (dot.h.bits : Nat), .string dot.h.text, .slice a1 dot.h.keys.length c1, .slice a2 dot.items.len c2, .int .u8 (root.h.kind : Nat), .bool root.h.b, .int .i64 root.h.n, .int .u64 (root.h.bits : Nat), .string root.h.text, .slice a3 root.h.keys.length c3, .slice a4 root.items.len c4, .int .i64 (deep : Nat), .pointer (some ⟨rb, 0, none⟩)], .agg #[.int .u8 (h.kind : Nat), .int .i64 h.pos, .string h.text, .bool h.root, .slice an h.names.length cn, .string h.name, .slice ak kd.len ck, .slice ae el.len ce]] W0 (BuP mb C l rb h.pos W0 (f + 1))) :=
  burn_calls dot root h deep rb mb C l (f + 1) HRUN0.out.fl a1 a2 a3 a4 an ak ae c1 c2 c3 c4 cn kd.len ck el.len ce W0 HRUN0.out.rest
 obtain ⟨q0, q1, q2, q3, q4, q5, q6, q7, q8, q9, q10, q11, q12, q13, q14, q15⟩ := runCs (P := W.heap.size) (dot := dot) (root := root) (a1 := a1) (a2 := a2) (a3 := a3) (a4 := a4) (c1 := c1) (c2 := c2) (c3 := c3) (c4 := c4) (deep := deep) (rb := rb) hr0
 obtain ⟨p0, p1, p2, p3, p4, p5, p6, p7⟩ := pcCs (P := W.heap.size + 1) (h := h) hp0
 clear hr0 hp0
 go_wp2_with fail
 refine BC.out.mono ?_
 rintro e w1 ⟨rfl, hre1, hoff1⟩
 have hw1 := hoff1.size
 have HST1 := Lib.hid (HST0.out.trans (stp_burn HRUN0.out.lt hoff1))
 have HRUN1 : Hid (RunA D C l rb mb S f w1) := HRUN0.out.step (stp_burn HRUN0.out.lt hoff1) hre1 (Nat.le_succ f)
 have HJ1 := Lib.hid (HJJ.out _ _ _ _ HJ0.out (hoff1.mono fun b hb => ⟨HRUN0.out.lt b hb, fun e => HRUN0.out.rbS (by rw [← e]; exact hb)⟩))
 have hrl := lt_of_block HRUNW.out.rest
 have HR1 : Hid (w1.heap[W.heap.size]? = some (.cells (runCells dot root a1 a2 a3 a4 c1 c2 c3 c4 deep rb) 120 (0, 0))) := (hoff1.block _ ⟨by omega, by omega⟩).trans HR0.out
 have HP1 : Hid (w1.heap[W.heap.size + 1]? = some (.cells (pCells h (.slice an h.names.length cn) (.slice ak kd.len ck) (.slice ae el.len ce)) 56 (0, 0))) := (hoff1.block _ ⟨by omega, by omega⟩).trans HP0.out
 have HRX : Hid (okS S rb w1 W.heap.size) := HRUNW.out.new (Nat.le_refl _) (by omega)
 have HPX : Hid (okS S rb w1 (W.heap.size + 1)) := HRUNW.out.new (by omega) (by omega)
 have hz1 : W.heap.size + 2 ≤ w1.heap.size := by omega
 clear hre1 hoff1 BC q0 q1 q2 q3 q4 q5 q6 q7 q8 q9 q10 q11 q12 q13 q14 q15 p0 p1 p2 p3 p4 p5 p6 p7
 obtain ⟨p0, p1, p2, p3, p4, p5, p6, p7⟩ := pcCs HP1.out
 go_upto_region 4 with (fail)
 obtain ⟨q0, q1, q2, q3, q4, q5, q6, q7, q8, q9, q10, q11, q12, q13, q14, q15⟩ := runCs HR1.out
 have HRE1 := Lib.hid HRUN1.out.rest
 have r3 : w1.cell? ⟨rb, 3, none⟩ = some (.func (.yield l) #[] #[]) := by rw [cell_of_heap' HRE1.out]; rfl
 refine (wpIn_wide (n := 5)).1 (wpIn_region_any (by kernel_rfl) ?_)
 change wpAnyIn _ _ _ _ _ _ _ _ _ w1.drew
 refine anyIn_inv (fun listed a w => RgI 13 11 93 (tvals h W.heap.size rb l) (.pointer (some ⟨W.heap.size, 0, none⟩)) (.pointer (some ⟨W.heap.size + 1, 0, none⟩)) listed a ∧ (listed.getD 10 false = false → w = w1.drew) ∧ (listed.getD 10 false = true → ∃ S', J S' (pre ++ [itText h]) w ∧ Turn S (fun _ => False) S' w1.drew w)) (early_spec (by kernel_rfl)) ?hstep ?hend _ _ _ _ ?hI (by simp) (unl_rep _) (fun j oj _ hj => by simp [Array.getD] at hj)
 case hI => exact ⟨RgI.start rfl rfl rfl rfl, fun _ => rfl, fun hl => by simp [Array.getD] at hl⟩
 case hend =>
  rintro listed a w ⟨hI, -, h10⟩ hall
  obtain ⟨S', hJ', ht⟩ := h10 (hall 10 (by decide))
  have h4 := hI.res (hall 11 (by decide))
  have hdf := hI.dfr
  have hfin : EvP C l rb mb J ⟨[⟨h.pos, false, zeroVa, h.text⟩], f, none⟩ S pre W (.returned (.bool true)) w :=
   ⟨S', [itText h], hJ', rfl, HST1.out.trans ⟨⟨ht.off.os, ht.off.tape, ht.off.output, ht.off.size, fun b hb => ht.off.block b ⟨hb.1, hb.2.1⟩⟩, fun b hb => by rcases ht.grow b hb with h | h | h; exact .inl h; exact h.elim; exact .inr h, ht.lt⟩, rfl, (ht.off.block rb ⟨lt_of_block HRE1.out, HRUN1.out.rbS⟩).trans HRE1.out⟩
  obtain ⟨tmps, defers⟩ := a
  obtain rfl : defers = [] := hdf
  have h4' : tmps[4]?.getD undef = .bool true := by rw [← h4]; simp
  have HFIN := Lib.hid hfin
  clear hI h10 hall hJ' ht hfin h4
  go_wp2_with fail
  exact ⟨rfl, _, by simp [results, Tryz.results91, h4', go_sem], HFIN.out⟩
 case hstep =>
  rintro listed a w i o ⟨hI, h0, h1⟩ hsz ho hun hdep hcl
  have hi12 : i < 12 := (Array.getElem?_eq_some_iff.1 ho).1
  have c1_0 : listed.getD 1 false = true → listed.getD 0 false = true := fun hj => hcl 1 _ rfl hj ⟨0, .data⟩ (by simp) rfl
  have c2_1 : listed.getD 2 false = true → listed.getD 1 false = true := fun hj => hcl 2 _ rfl hj ⟨1, .data⟩ (by simp) rfl
  have c3_2 : listed.getD 3 false = true → listed.getD 2 false = true := fun hj => hcl 3 _ rfl hj ⟨2, .data⟩ (by simp) rfl
  have c4_3 : listed.getD 4 false = true → listed.getD 3 false = true := fun hj => hcl 4 _ rfl hj ⟨3, .data⟩ (by simp) rfl
  have c6_5 : listed.getD 6 false = true → listed.getD 5 false = true := fun hj => hcl 6 _ rfl hj ⟨5, .data⟩ (by simp) rfl
  have c8_7 : listed.getD 8 false = true → listed.getD 7 false = true := fun hj => hcl 8 _ rfl hj ⟨7, .data⟩ (by simp) rfl
  have c9_6 : listed.getD 9 false = true → listed.getD 6 false = true := fun hj => hcl 9 _ rfl hj ⟨6, .data⟩ (by simp) rfl
  have c9_8 : listed.getD 9 false = true → listed.getD 8 false = true := fun hj => hcl 9 _ rfl hj ⟨8, .data⟩ (by simp) rfl
  have c10_4 : listed.getD 10 false = true → listed.getD 4 false = true := fun hj => hcl 10 _ rfl hj ⟨4, .data⟩ (by simp) rfl
  have c10_9 : listed.getD 10 false = true → listed.getD 9 false = true := fun hj => hcl 10 _ rfl hj ⟨9, .data⟩ (by simp) rfl
  have t2 : a.tmps[2]?.getD undef = .pointer (some ⟨W.heap.size, 0, none⟩) := by rw [← hI.t2]; simp
  have t3 : a.tmps[3]?.getD undef = .pointer (some ⟨W.heap.size + 1, 0, none⟩) := by rw [← hI.t3]; simp
  rcases (by omega : i = 0 ∨ i = 1 ∨ i = 2 ∨ i = 3 ∨ i = 4 ∨ i = 5 ∨ i = 6 ∨ i = 7 ∨ i = 8 ∨ i = 9 ∨ i = 10 ∨ i = 11) with rfl | rfl | rfl | rfl | rfl | rfl | rfl | rfl | rfl | rfl | rfl | rfl
  · obtain rfl := Option.some.inj ho
    have hx10 : listed.getD 10 false = false := by
     cases hx : listed.getD 10 false with
     | false => rfl
     | true => have := (c1_0 (c2_1 (c3_2 (c4_3 (c10_4 hx))))); rw [hun] at this; cases this
    obtain rfl := h0 hx10
    refine opIn_value ho rfl (v := tvals h W.heap.size rb l 0) (w' := w1.drew) ?_ ⟨hI.put 0 (by omega) (by omega) (by omega) _ rfl, fun _ => rfl, fun hl => by rw [getD_set_other _ _ _ _ _ (by omega), hx10] at hl; cases hl⟩
    simp [execOp, Act.eval, go_sem, tvals, t2]
  · obtain rfl := Option.some.inj ho
    have hx10 : listed.getD 10 false = false := by
     cases hx : listed.getD 10 false with
     | false => rfl
     | true => have := (c2_1 (c3_2 (c4_3 (c10_4 hx)))); rw [hun] at this; cases this
    obtain rfl := h0 hx10
    have v0 : a.tmps[13]?.getD undef = tvals h W.heap.size rb l 0 := by have := hI.val 0 (by omega) (hdep ⟨0, .data⟩ (by simp) rfl); simpa using this
    refine opIn_value ho rfl (v := tvals h W.heap.size rb l 1) (w' := w1.drew) ?_ ⟨hI.put 1 (by omega) (by omega) (by omega) _ rfl, fun _ => rfl, fun hl => by rw [getD_set_other _ _ _ _ _ (by omega), hx10] at hl; cases hl⟩
    simp [execOp, Act.eval, go_sem, tvals, v0, q15]
  · obtain rfl := Option.some.inj ho
    have hx10 : listed.getD 10 false = false := by
     cases hx : listed.getD 10 false with
     | false => rfl
     | true => have := (c3_2 (c4_3 (c10_4 hx))); rw [hun] at this; cases this
    obtain rfl := h0 hx10
    have v1 : a.tmps[14]?.getD undef = tvals h W.heap.size rb l 1 := by have := hI.val 1 (by omega) (hdep ⟨1, .data⟩ (by simp) rfl); simpa using this
    refine opIn_value ho rfl (v := tvals h W.heap.size rb l 2) (w' := w1.drew) ?_ ⟨hI.put 2 (by omega) (by omega) (by omega) _ rfl, fun _ => rfl, fun hl => by rw [getD_set_other _ _ _ _ _ (by omega), hx10] at hl; cases hl⟩
    simp [execOp, Act.eval, go_sem, tvals, v1]
  · obtain rfl := Option.some.inj ho
    have hx10 : listed.getD 10 false = false := by
     cases hx : listed.getD 10 false with
     | false => rfl
     | true => have := (c4_3 (c10_4 hx)); rw [hun] at this; cases this
    obtain rfl := h0 hx10
    have v2 : a.tmps[15]?.getD undef = tvals h W.heap.size rb l 2 := by have := hI.val 2 (by omega) (hdep ⟨2, .data⟩ (by simp) rfl); simpa using this
    refine opIn_value ho rfl (v := tvals h W.heap.size rb l 3) (w' := w1.drew) ?_ ⟨hI.put 3 (by omega) (by omega) (by omega) _ rfl, fun _ => rfl, fun hl => by rw [getD_set_other _ _ _ _ _ (by omega), hx10] at hl; cases hl⟩
    simp [execOp, Act.eval, go_sem, tvals, v2]
  · obtain rfl := Option.some.inj ho
    have hx10 : listed.getD 10 false = false := by
     cases hx : listed.getD 10 false with
     | false => rfl
     | true => have := (c10_4 hx); rw [hun] at this; cases this
    obtain rfl := h0 hx10
    have v3 : a.tmps[16]?.getD undef = tvals h W.heap.size rb l 3 := by have := hI.val 3 (by omega) (hdep ⟨3, .data⟩ (by simp) rfl); simpa using this
    refine opIn_value ho rfl (v := tvals h W.heap.size rb l 4) (w' := w1.drew) ?_ ⟨hI.put 4 (by omega) (by omega) (by omega) _ rfl, fun _ => rfl, fun hl => by rw [getD_set_other _ _ _ _ _ (by omega), hx10] at hl; cases hl⟩
    simp [execOp, Act.eval, go_sem, tvals, v3, r3]
  · obtain rfl := Option.some.inj ho
    have hx10 : listed.getD 10 false = false := by
     cases hx : listed.getD 10 false with
     | false => rfl
     | true => have := (c6_5 (c9_6 (c10_9 hx))); rw [hun] at this; cases this
    obtain rfl := h0 hx10
    refine opIn_value ho rfl (v := tvals h W.heap.size rb l 5) (w' := w1.drew) ?_ ⟨hI.put 5 (by omega) (by omega) (by omega) _ rfl, fun _ => rfl, fun hl => by rw [getD_set_other _ _ _ _ _ (by omega), hx10] at hl; cases hl⟩
    simp [execOp, Act.eval, go_sem, tvals, t3]
  · obtain rfl := Option.some.inj ho
    have hx10 : listed.getD 10 false = false := by
     cases hx : listed.getD 10 false with
     | false => rfl
     | true => have := (c9_6 (c10_9 hx)); rw [hun] at this; cases this
    obtain rfl := h0 hx10
    have v5 : a.tmps[18]?.getD undef = tvals h W.heap.size rb l 5 := by have := hI.val 5 (by omega) (hdep ⟨5, .data⟩ (by simp) rfl); simpa using this
    refine opIn_value ho rfl (v := tvals h W.heap.size rb l 6) (w' := w1.drew) ?_ ⟨hI.put 6 (by omega) (by omega) (by omega) _ rfl, fun _ => rfl, fun hl => by rw [getD_set_other _ _ _ _ _ (by omega), hx10] at hl; cases hl⟩
    simp [execOp, Act.eval, go_sem, tvals, v5, p1]
  · obtain rfl := Option.some.inj ho
    have hx10 : listed.getD 10 false = false := by
     cases hx : listed.getD 10 false with
     | false => rfl
     | true => have := (c8_7 (c9_8 (c10_9 hx))); rw [hun] at this; cases this
    obtain rfl := h0 hx10
    refine opIn_value ho rfl (v := tvals h W.heap.size rb l 7) (w' := w1.drew) ?_ ⟨hI.put 7 (by omega) (by omega) (by omega) _ rfl, fun _ => rfl, fun hl => by rw [getD_set_other _ _ _ _ _ (by omega), hx10] at hl; cases hl⟩
    simp [execOp, Act.eval, go_sem, tvals, t3]
  · obtain rfl := Option.some.inj ho
    have hx10 : listed.getD 10 false = false := by
     cases hx : listed.getD 10 false with
     | false => rfl
     | true => have := (c9_8 (c10_9 hx)); rw [hun] at this; cases this
    obtain rfl := h0 hx10
    have v7 : a.tmps[20]?.getD undef = tvals h W.heap.size rb l 7 := by have := hI.val 7 (by omega) (hdep ⟨7, .data⟩ (by simp) rfl); simpa using this
    refine opIn_value ho rfl (v := tvals h W.heap.size rb l 8) (w' := w1.drew) ?_ ⟨hI.put 8 (by omega) (by omega) (by omega) _ rfl, fun _ => rfl, fun hl => by rw [getD_set_other _ _ _ _ _ (by omega), hx10] at hl; cases hl⟩
    simp [execOp, Act.eval, go_sem, tvals, v7, p2]
  · obtain rfl := Option.some.inj ho
    have hx10 : listed.getD 10 false = false := by
     cases hx : listed.getD 10 false with
     | false => rfl
     | true => have := (c10_9 hx); rw [hun] at this; cases this
    obtain rfl := h0 hx10
    have v6 : a.tmps[19]?.getD undef = tvals h W.heap.size rb l 6 := by have := hI.val 6 (by omega) (hdep ⟨6, .data⟩ (by simp) rfl); simpa using this
    have v8 : a.tmps[21]?.getD undef = tvals h W.heap.size rb l 8 := by have := hI.val 8 (by omega) (hdep ⟨8, .data⟩ (by simp) rfl); simpa using this
    refine opIn_value ho rfl (v := tvals h W.heap.size rb l 9) (w' := w1.drew) ?_ ⟨hI.put 9 (by omega) (by omega) (by omega) _ rfl, fun _ => rfl, fun hl => by rw [getD_set_other _ _ _ _ _ (by omega), hx10] at hl; cases hl⟩
    simp [execOp, Act.eval, go_sem, tvals, v6, v8]
  · obtain rfl := Option.some.inj ho
    obtain rfl := h0 hun
    have v4 : a.tmps[17]?.getD undef = tvals h W.heap.size rb l 4 := by have := hI.val 4 (by omega) (hdep ⟨4, .data⟩ (by simp) rfl); simpa using this
    have v9 : a.tmps[22]?.getD undef = tvals h W.heap.size rb l 9 := by have := hI.val 9 (by omega) (hdep ⟨9, .data⟩ (by simp) rfl); simpa using this
    have hJd := HJJ.out _ _ _ _ HJ1.out (off_refl S w1)
    have hc := HYY.out S pre (itText h) w1.drew hJd (by omega) ⟨fun b hb => hb.elim, ⟨Strs.nil _ _, Vals.nil _ _⟩, fun b hb => hb.elim, sm_zero, fun b hb => hb.elim⟩
    refine opIn_yield (l := l) (args := encP (itText h)) (w' := w1.drew) ho rfl ?_ hc ?_ (fun ch w'' h => by cases h.1) (fun w'' h => by cases h.1)
    · simp [execOp, Act.eval, go_sem, tvals, v4, v9, encP, itText, zeroVa, zeroVh, Vl.len]
      rfl
    · rintro v w'' ⟨hv, S', hJ', ht⟩
      cases hv
      exact ⟨hI.put 10 (by omega) (by omega) (by omega) _ rfl, fun hl => by (rw [getD_set_same _ _ _ _ (by rw [hsz]; decide)] at hl; cases hl), fun _ => ⟨S', hJ', ht⟩⟩
  · obtain rfl := Option.some.inj ho
    have hx10 : listed.getD 10 false = true := hdep ⟨10, .data⟩ (by simp) rfl
    have v10 : a.tmps[23]?.getD undef = tvals h W.heap.size rb l 10 := by have := hI.val 10 (by omega) (hdep ⟨10, .data⟩ (by simp) rfl); simpa using this
    refine opIn_value ho rfl (v := .bool true) (w' := w) ?_ ⟨hI.putRes (by omega) (by omega), fun hl => by (rw [getD_set_other _ _ _ _ _ (by omega), hx10] at hl; cases hl), fun _ => h1 hx10⟩
    simp [execOp, Act.eval, go_sem, tvals, v10]
end Go.Proofs.YtepcpgdfbaklfaaGreatDoor
