/- The contract of runner.part at a hole: a value, or the error of the way to it. No condition but the run's form in memory. -/
import Derived.Test.YtepcpgdfbaklfaaGreatDoorG5C
import Derived.Test.YtepcpgdfbaklfaaGreatDoorMcF0
import Derived.Test.YtepcpgdfbaklfaaGreatDoorMcE0
import Derived.Laws.Externs
set_option linter.unusedSimpArgs false
set_option linter.unusedVariables false
namespace Go.Proofs.YtepcpgdfbaklfaaGreatDoor
open Go.RowKit Go.Shelf Ev
attribute [local go_sem ↓] Go.wp_at_zero Go.wp_at_succ
def hvals (h : Hd) (R0 rb l : Nat) (sc pt : Value) (x : Va) (u1 : Option Addr) (u2 : Nat) (u3 : Option Addr) (u4 : Nat) (i : Nat) : Value := match i with
 | 0 => .pointer (some ⟨R0, 15, none⟩)
 | 1 => .pointer (some ⟨rb, 0, none⟩)
 | 2 => .pointer (some ⟨rb, 0, none⟩)
 | 3 => .pointer (some ⟨rb, 3, none⟩)
 | 4 => .func (.yield l) #[] #[]
 | 5 => .pointer (some ⟨R0 + 1, 1, none⟩)
 | 6 => .int .i64 h.pos
 | 7 => .pointer (some ⟨R0, 0, none⟩)
 | 8 => sc
 | 9 => pt
 | 10 => .agg #[.int .u8 (x.h.kind : Nat), .bool x.h.b, .int .i64 x.h.n, .int .u64 (x.h.bits : Nat), .string x.h.text, .slice u1 x.h.keys.length u2, .slice u3 x.items.len u4]
 | 11 => .agg #[.int .i64 h.pos, .bool true, .string ⟨#[]⟩, .int .u8 (x.h.kind : Nat), .bool x.h.b, .int .i64 x.h.n, .int .u64 (x.h.bits : Nat), .string x.h.text, .slice u1 x.h.keys.length u2, .slice u3 x.items.len u4]
 | _ => .bool true
set_option maxRecDepth 100000 in
set_option maxHeartbeats 40000000 in
theorem part_hole_err (D : ByteArray → Pt) (C l rb mb : Nat) (J : (Nat → Prop) → List It → World → Prop) (HJ : Lies J) (dot root : Va) (h : Hd) (kd el : Pt) (deep f : Nat) (S : Nat → Prop) (pre : List It) (W : World) (a1 a2 a3 a4 an ak ae : Option Addr) (c1 c2 c3 c4 cn ck ce : Nat) (hcap : pre.length + (f + 1) ≤ 1000000) (hdc : deep ≤ C) (hsh : h.sm) (hsk : kd.sm) (hse : el.sm) (hck : kd.cnt ≤ 16777216) (hce : el.cnt ≤ 16777216) (hrun : RunA D C l rb mb S (f + 1) W) (hJ : J S pre W) (hok : Okd S rb W dot root a1 a2 a3 a4 c1 c2 c3 c4) (hst : Strs (okS S rb W) W (.slice an h.names.length cn) h.names) (hk : Parts (okS S rb W) W (.slice ak kd.len ck) kd) (he : Parts (okS S rb W) W (.slice ae el.len ce) el) (hk0 : h.kind = 2) (n : Nat) (hg : getF h.names (if h.root then root else dot) = .error n) :
 Calls Tryz.prog 91 #[.agg #[.int .u8 (dot.h.kind : Nat), .bool dot.h.b, .int .i64 dot.h.n, .int .u64 (dot.h.bits : Nat), .string dot.h.text, .slice a1 dot.h.keys.length c1, .slice a2 dot.items.len c2, .int .u8 (root.h.kind : Nat), .bool root.h.b, .int .i64 root.h.n, .int .u64 (root.h.bits : Nat), .string root.h.text, .slice a3 root.h.keys.length c3, .slice a4 root.items.len c4, .int .i64 (deep : Nat), .pointer (some ⟨rb, 0, none⟩)], .agg #[.int .u8 (h.kind : Nat), .int .i64 h.pos, .string h.text, .bool h.root, .slice an h.names.length cn, .string h.name, .slice ak kd.len ck, .slice ae el.len ce]] W (EvP C l rb mb J ⟨[], f, some (n, h.pos)⟩ S pre W) := by
 have HG := Lib.hid hg
 clear hg
 have j1 : ((h.kind : Int) == 1) = false := by rw [hk0]; rfl
 have j2 : ((h.kind : Int) == 2) = true := by rw [hk0]; rfl
 have j3 : ((h.kind : Int) == 3) = false := by rw [hk0]; rfl
 have j4 : ((h.kind : Int) == 4) = false := by rw [hk0]; rfl
 clear hk0
 have HB0 : Hid (Below W.heap.size W ((W.alloc (.cells #[.int .u8 (dot.h.kind : Nat), .bool dot.h.b, .int .i64 dot.h.n, .int .u64 (dot.h.bits : Nat), .string dot.h.text, .slice a1 dot.h.keys.length c1, .slice a2 dot.items.len c2, .int .u8 (root.h.kind : Nat), .bool root.h.b, .int .i64 root.h.n, .int .u64 (root.h.bits : Nat), .string root.h.text, .slice a3 root.h.keys.length c3, .slice a4 root.items.len c4, .int .i64 (deep : Nat), .pointer (some ⟨rb, 0, none⟩)] 120)).alloc (.cells #[.int .u8 (h.kind : Nat), .int .i64 h.pos, .string h.text, .bool h.root, .slice an h.names.length cn, .string h.name, .slice ak kd.len ck, .slice ae el.len ce] 56))) := (((Below.refl _ W).alloc (Nat.le_refl _) _).alloc (by simp) _)
 have HS0 : Hid (((W.alloc (.cells #[.int .u8 (dot.h.kind : Nat), .bool dot.h.b, .int .i64 dot.h.n, .int .u64 (dot.h.bits : Nat), .string dot.h.text, .slice a1 dot.h.keys.length c1, .slice a2 dot.items.len c2, .int .u8 (root.h.kind : Nat), .bool root.h.b, .int .i64 root.h.n, .int .u64 (root.h.bits : Nat), .string root.h.text, .slice a3 root.h.keys.length c3, .slice a4 root.items.len c4, .int .i64 (deep : Nat), .pointer (some ⟨rb, 0, none⟩)] 120)).alloc (.cells #[.int .u8 (h.kind : Nat), .int .i64 h.pos, .string h.text, .bool h.root, .slice an h.names.length cn, .string h.name, .slice ak kd.len ck, .slice ae el.len ce] 56)).heap.size = W.heap.size + 2) := by unfold Hid; simp
 have HT : Hid (∀ W0, ((W.alloc (.cells #[.int .u8 (dot.h.kind : Nat), .bool dot.h.b, .int .i64 dot.h.n, .int .u64 (dot.h.bits : Nat), .string dot.h.text, .slice a1 dot.h.keys.length c1, .slice a2 dot.items.len c2, .int .u8 (root.h.kind : Nat), .bool root.h.b, .int .i64 root.h.n, .int .u64 (root.h.bits : Nat), .string root.h.text, .slice a3 root.h.keys.length c3, .slice a4 root.items.len c4, .int .i64 (deep : Nat), .pointer (some ⟨rb, 0, none⟩)] 120)).alloc (.cells #[.int .u8 (h.kind : Nat), .int .i64 h.pos, .string h.text, .bool h.root, .slice an h.names.length cn, .string h.name, .slice ak kd.len ck, .slice ae el.len ce] 56)) = W0 → W0.heap[W.heap.size]? = some (.cells #[.int .u8 (dot.h.kind : Nat), .bool dot.h.b, .int .i64 dot.h.n, .int .u64 (dot.h.bits : Nat), .string dot.h.text, .slice a1 dot.h.keys.length c1, .slice a2 dot.items.len c2, .int .u8 (root.h.kind : Nat), .bool root.h.b, .int .i64 root.h.n, .int .u64 (root.h.bits : Nat), .string root.h.text, .slice a3 root.h.keys.length c3, .slice a4 root.items.len c4, .int .i64 (deep : Nat), .pointer (some ⟨rb, 0, none⟩)] 120 (0, 0)) ∧ W0.heap[W.heap.size + 1]? = some (.cells #[.int .u8 (h.kind : Nat), .int .i64 h.pos, .string h.text, .bool h.root, .slice an h.names.length cn, .string h.name, .slice ak kd.len ck, .slice ae el.len ce] 56 (0, 0))) := by
  rintro W0 rfl
  have s1 : (W.alloc (.cells #[.int .u8 (dot.h.kind : Nat), .bool dot.h.b, .int .i64 dot.h.n, .int .u64 (dot.h.bits : Nat), .string dot.h.text, .slice a1 dot.h.keys.length c1, .slice a2 dot.items.len c2, .int .u8 (root.h.kind : Nat), .bool root.h.b, .int .i64 root.h.n, .int .u64 (root.h.bits : Nat), .string root.h.text, .slice a3 root.h.keys.length c3, .slice a4 root.items.len c4, .int .i64 (deep : Nat), .pointer (some ⟨rb, 0, none⟩)] 120 (0, 0))).heap.size = W.heap.size + 1 := by simp
  refine ⟨?_, ?_⟩
  · rw [Below.heap_alloc _ _ _ (by omega)]
    exact heap_alloc_new W _
  · skip
    have := heap_alloc_new (W.alloc (.cells #[.int .u8 (dot.h.kind : Nat), .bool dot.h.b, .int .i64 dot.h.n, .int .u64 (dot.h.bits : Nat), .string dot.h.text, .slice a1 dot.h.keys.length c1, .slice a2 dot.items.len c2, .int .u8 (root.h.kind : Nat), .bool root.h.b, .int .i64 root.h.n, .int .u64 (root.h.bits : Nat), .string root.h.text, .slice a3 root.h.keys.length c3, .slice a4 root.items.len c4, .int .i64 (deep : Nat), .pointer (some ⟨rb, 0, none⟩)] 120 (0, 0))) (.cells #[.int .u8 (h.kind : Nat), .int .i64 h.pos, .string h.text, .bool h.root, .slice an h.names.length cn, .string h.name, .slice ak kd.len ck, .slice ae el.len ce] 56 (0, 0)); rwa [s1] at this
 have hst0 := hrun.stp HB0.out
 have HST0 := Lib.hid hst0
 have HRUN0 := Lib.hid (hrun.below HB0.out)
 have HJ0 := Lib.hid (HJ _ _ _ _ hJ (off_below hrun.lt HB0.out))
 have HJJ := Lib.hid HJ
 have HRUNW := Lib.hid hrun
 have HOKW := Lib.hid hok
 have HSTW := Lib.hid hst
 have HKDW := Lib.hid hk
 have HELW := Lib.hid he
 have HSH := Lib.hid hsh
 clear hst0 hrun hJ hok hst hk he HJ hsh
 go_enter Tryz.func91, Tryz.ntmps91
 go_upto_region 1 with (fail)
 try simp only [Nat.add_assoc, Nat.reduceAdd]
 generalize hWW : World.alloc (World.alloc W _) _ = W0 at *
 obtain ⟨hr0, hp0⟩ := HT.out W0 rfl
 clear hWW HT
 have hz0 : W0.heap.size = W.heap.size + 2 := HS0.out
 have HR0 := Lib.hid hr0
 have HP0 := Lib.hid hp0
 have BC : Hid (Calls Tryz.prog 129 #[.agg #[.int .u8 (dot.h.kind : Nat), .bool dot.h.b, .int .i64 dot.h.n, .int .u64 (dot.h.bits : Nat), .string dot.h.text, .slice a1 dot.h.keys.length c1, .slice a2 dot.items.len c2, .int .u8 (root.h.kind : Nat), .bool root.h.b, .int .i64 root.h.n, .int .u64 (root.h.bits : Nat), .string root.h.text, .slice a3 root.h.keys.length c3, .slice a4 root.items.len c4, .int .i64 (deep : Nat), .pointer (some ⟨rb, 0, none⟩)], .agg #[.int .u8 (h.kind : Nat), .int .i64 h.pos, .string h.text, .bool h.root, .slice an h.names.length cn, .string h.name, .slice ak kd.len ck, .slice ae el.len ce]] W0 (BuP mb C l rb h.pos W0 (f + 1))) :=
  burn_calls dot root h deep rb mb C l (f + 1) HRUN0.out.fl a1 a2 a3 a4 an ak ae c1 c2 c3 c4 cn kd.len ck el.len ce W0 HRUN0.out.rest
 obtain ⟨q0, q1, q2, q3, q4, q5, q6, q7, q8, q9, q10, q11, q12, q13, q14, q15⟩ := runCs (P := W.heap.size) (dot := dot) (root := root) (a1 := a1) (a2 := a2) (a3 := a3) (a4 := a4) (c1 := c1) (c2 := c2) (c3 := c3) (c4 := c4) (deep := deep) (rb := rb) hr0
 obtain ⟨p0, p1, p2, p3, p4, p5, p6, p7⟩ := pcCs (P := W.heap.size + 1) (h := h) hp0
 clear hr0 hp0
 go_wp2_with fail
 refine BC.out.mono ?_
 rintro e w1 ⟨rfl, hre1, hoff1⟩
 have hw1 := hoff1.size
 have HST1 := Lib.hid (HST0.out.trans (stp_burn HRUN0.out.lt hoff1))
 have HRUN1 : Hid (RunA D C l rb mb S f w1) := HRUN0.out.step (stp_burn HRUN0.out.lt hoff1) hre1 (Nat.le_succ f)
 have HJ1 := Lib.hid (HJJ.out _ _ _ _ HJ0.out (hoff1.mono fun b hb => ⟨HRUN0.out.lt b hb, fun e => HRUN0.out.rbS (by rw [← e]; exact hb)⟩))
 have hrl := lt_of_block HRUNW.out.rest
 have HR1 : Hid (w1.heap[W.heap.size]? = some (.cells (runCells dot root a1 a2 a3 a4 c1 c2 c3 c4 deep rb) 120 (0, 0))) := (hoff1.block _ ⟨by omega, by omega⟩).trans HR0.out
 have HP1 : Hid (w1.heap[W.heap.size + 1]? = some (.cells (pCells h (.slice an h.names.length cn) (.slice ak kd.len ck) (.slice ae el.len ce)) 56 (0, 0))) := (hoff1.block _ ⟨by omega, by omega⟩).trans HP0.out
 have HRX : Hid (okS S rb w1 W.heap.size) := HRUNW.out.new (Nat.le_refl _) (by omega)
 have HPX : Hid (okS S rb w1 (W.heap.size + 1)) := HRUNW.out.new (by omega) (by omega)
 have hz1 : W.heap.size + 2 ≤ w1.heap.size := by omega
 clear hre1 hoff1 BC q0 q1 q2 q3 q4 q5 q6 q7 q8 q9 q10 q11 q12 q13 q14 q15 p0 p1 p2 p3 p4 p5 p6 p7
 obtain ⟨p0, p1, p2, p3, p4, p5, p6, p7⟩ := pcCs HP1.out
 go_upto_region 6 with (fail)
 obtain ⟨q0, q1, q2, q3, q4, q5, q6, q7, q8, q9, q10, q11, q12, q13, q14, q15⟩ := runCs HR1.out
 have HRE1 := Lib.hid HRUN1.out.rest
 have r3 : w1.cell? ⟨rb, 3, none⟩ = some (.func (.yield l) #[] #[]) := by rw [cell_of_heap' HRE1.out]; rfl
 have hsl : h.names.length ≤ 140737488351232 := by have := HSH.out.2.2.2.1; omega
 have hs1d : Stp rb S W S w1.drew := ⟨HST1.out.off.trans (off_refl _ w1), HST1.out.grow, HST1.out.lt⟩
 have hok1 := HOKW.out.step hs1d
 have SG : Hid (Calls Tryz.prog 130 #[(.agg #[.int .u8 (dot.h.kind : Nat), .bool dot.h.b, .int .i64 dot.h.n, .int .u64 (dot.h.bits : Nat), .string dot.h.text, .slice a1 dot.h.keys.length c1, .slice a2 dot.items.len c2, .int .u8 (root.h.kind : Nat), .bool root.h.b, .int .i64 root.h.n, .int .u64 (root.h.bits : Nat), .string root.h.text, .slice a3 root.h.keys.length c3, .slice a4 root.items.len c4]), (.agg #[.int .u8 (h.kind : Nat), .int .i64 h.pos, .string h.text, .bool h.root, .slice an h.names.length cn, .string h.name, .slice ak kd.len ck, .slice ae el.len ce])] w1.drew (SgP (getF h.names (if h.root then root else dot)) h.pos w1.drew)) :=
  sget_calls dot root h hok1.dsm hok1.rsm hsl _ a1 a2 a3 a4 an ak ae c1 c2 c3 c4 cn kd.len ck el.len ce w1.drew hok1.dot hok1.root (hs1d.strs HSTW.out)
 rw [HG.out] at SG
 clear hok1
 refine (wpIn_wide (n := 5)).1 (wpIn_region_any (by kernel_rfl) ?_)
 change wpAnyIn _ _ _ _ _ _ _ _ _ w1.drew
 refine anyIn_inv (fun listed a w => RgI 26 13 93 (hvals h W.heap.size rb l (.agg #[.int .u8 (dot.h.kind : Nat), .bool dot.h.b, .int .i64 dot.h.n, .int .u64 (dot.h.bits : Nat), .string dot.h.text, .slice a1 dot.h.keys.length c1, .slice a2 dot.items.len c2, .int .u8 (root.h.kind : Nat), .bool root.h.b, .int .i64 root.h.n, .int .u64 (root.h.bits : Nat), .string root.h.text, .slice a3 root.h.keys.length c3, .slice a4 root.items.len c4]) (.agg #[.int .u8 (h.kind : Nat), .int .i64 h.pos, .string h.text, .bool h.root, .slice an h.names.length cn, .string h.name, .slice ak kd.len ck, .slice ae el.len ce]) zeroVa none 0 none 0) (.pointer (some ⟨W.heap.size, 0, none⟩)) (.pointer (some ⟨W.heap.size + 1, 0, none⟩)) listed a ∧ listed.getD 10 false = false ∧ w = w1.drew) (early_spec (by kernel_rfl)) ?hstep ?hend _ _ _ _ ?hI (by simp) (unl_rep _) (fun j oj _ hj => by simp [Array.getD] at hj)
 case hI => exact ⟨RgI.start rfl rfl rfl rfl, by simp [Array.getD], rfl⟩
 case hend =>
  rintro listed a w ⟨hI, h10, -⟩ hall
  have := hall 10 (by decide)
  rw [h10] at this
  cases this
 case hstep =>
  rintro listed a w i o ⟨hI, h10, rfl⟩ hsz ho hun hdep hcl
  have hi14 : i < 14 := (Array.getElem?_eq_some_iff.1 ho).1
  have c1_0 : listed.getD 1 false = true → listed.getD 0 false = true := fun hj => hcl 1 _ rfl hj ⟨0, .data⟩ (by simp) rfl
  have c2_1 : listed.getD 2 false = true → listed.getD 1 false = true := fun hj => hcl 2 _ rfl hj ⟨1, .data⟩ (by simp) rfl
  have c3_2 : listed.getD 3 false = true → listed.getD 2 false = true := fun hj => hcl 3 _ rfl hj ⟨2, .data⟩ (by simp) rfl
  have c4_3 : listed.getD 4 false = true → listed.getD 3 false = true := fun hj => hcl 4 _ rfl hj ⟨3, .data⟩ (by simp) rfl
  have c6_5 : listed.getD 6 false = true → listed.getD 5 false = true := fun hj => hcl 6 _ rfl hj ⟨5, .data⟩ (by simp) rfl
  have c8_7 : listed.getD 8 false = true → listed.getD 7 false = true := fun hj => hcl 8 _ rfl hj ⟨7, .data⟩ (by simp) rfl
  have c10_8 : listed.getD 10 false = true → listed.getD 8 false = true := fun hj => hcl 10 _ rfl hj ⟨8, .data⟩ (by simp) rfl
  have c10_9 : listed.getD 10 false = true → listed.getD 9 false = true := fun hj => hcl 10 _ rfl hj ⟨9, .data⟩ (by simp) rfl
  have c11_6 : listed.getD 11 false = true → listed.getD 6 false = true := fun hj => hcl 11 _ rfl hj ⟨6, .data⟩ (by simp) rfl
  have c11_10 : listed.getD 11 false = true → listed.getD 10 false = true := fun hj => hcl 11 _ rfl hj ⟨10, .data⟩ (by simp) rfl
  have c12_4 : listed.getD 12 false = true → listed.getD 4 false = true := fun hj => hcl 12 _ rfl hj ⟨4, .data⟩ (by simp) rfl
  have c12_11 : listed.getD 12 false = true → listed.getD 11 false = true := fun hj => hcl 12 _ rfl hj ⟨11, .data⟩ (by simp) rfl
  have c13_12 : listed.getD 13 false = true → listed.getD 12 false = true := fun hj => hcl 13 _ rfl hj ⟨12, .data⟩ (by simp) rfl
  have t2 : a.tmps[2]?.getD undef = .pointer (some ⟨W.heap.size, 0, none⟩) := by rw [← hI.t2]; simp
  have t3 : a.tmps[3]?.getD undef = .pointer (some ⟨W.heap.size + 1, 0, none⟩) := by rw [← hI.t3]; simp
  rcases (by omega : i = 0 ∨ i = 1 ∨ i = 2 ∨ i = 3 ∨ i = 4 ∨ i = 5 ∨ i = 6 ∨ i = 7 ∨ i = 8 ∨ i = 9 ∨ i = 10 ∨ i = 11 ∨ i = 12 ∨ i = 13) with rfl | rfl | rfl | rfl | rfl | rfl | rfl | rfl | rfl | rfl | rfl | rfl | rfl | rfl
  · obtain rfl := Option.some.inj ho
    refine opIn_value ho rfl (v := (hvals h W.heap.size rb l (.agg #[.int .u8 (dot.h.kind : Nat), .bool dot.h.b, .int .i64 dot.h.n, .int .u64 (dot.h.bits : Nat), .string dot.h.text, .slice a1 dot.h.keys.length c1, .slice a2 dot.items.len c2, .int .u8 (root.h.kind : Nat), .bool root.h.b, .int .i64 root.h.n, .int .u64 (root.h.bits : Nat), .string root.h.text, .slice a3 root.h.keys.length c3, .slice a4 root.items.len c4]) (.agg #[.int .u8 (h.kind : Nat), .int .i64 h.pos, .string h.text, .bool h.root, .slice an h.names.length cn, .string h.name, .slice ak kd.len ck, .slice ae el.len ce]) zeroVa none 0 none 0) 0) (w' := w1.drew) ?_ ⟨hI.put 0 (by omega) (by omega) (by omega) _ rfl, by rw [getD_set_other _ _ _ _ _ (by omega)]; exact h10, rfl⟩
    simp [execOp, Act.eval, go_sem, hvals, t2]
  · obtain rfl := Option.some.inj ho
    have v0 : a.tmps[26]?.getD undef = (hvals h W.heap.size rb l (.agg #[.int .u8 (dot.h.kind : Nat), .bool dot.h.b, .int .i64 dot.h.n, .int .u64 (dot.h.bits : Nat), .string dot.h.text, .slice a1 dot.h.keys.length c1, .slice a2 dot.items.len c2, .int .u8 (root.h.kind : Nat), .bool root.h.b, .int .i64 root.h.n, .int .u64 (root.h.bits : Nat), .string root.h.text, .slice a3 root.h.keys.length c3, .slice a4 root.items.len c4]) (.agg #[.int .u8 (h.kind : Nat), .int .i64 h.pos, .string h.text, .bool h.root, .slice an h.names.length cn, .string h.name, .slice ak kd.len ck, .slice ae el.len ce]) zeroVa none 0 none 0) 0 := by have := hI.val 0 (by omega) (hdep ⟨0, .data⟩ (by simp) rfl); simpa using this
    refine opIn_value ho rfl (v := (hvals h W.heap.size rb l (.agg #[.int .u8 (dot.h.kind : Nat), .bool dot.h.b, .int .i64 dot.h.n, .int .u64 (dot.h.bits : Nat), .string dot.h.text, .slice a1 dot.h.keys.length c1, .slice a2 dot.items.len c2, .int .u8 (root.h.kind : Nat), .bool root.h.b, .int .i64 root.h.n, .int .u64 (root.h.bits : Nat), .string root.h.text, .slice a3 root.h.keys.length c3, .slice a4 root.items.len c4]) (.agg #[.int .u8 (h.kind : Nat), .int .i64 h.pos, .string h.text, .bool h.root, .slice an h.names.length cn, .string h.name, .slice ak kd.len ck, .slice ae el.len ce]) zeroVa none 0 none 0) 1) (w' := w1.drew) ?_ ⟨hI.put 1 (by omega) (by omega) (by omega) _ rfl, by rw [getD_set_other _ _ _ _ _ (by omega)]; exact h10, rfl⟩
    simp [execOp, Act.eval, go_sem, hvals, v0, q15]
  · obtain rfl := Option.some.inj ho
    have v1 : a.tmps[27]?.getD undef = (hvals h W.heap.size rb l (.agg #[.int .u8 (dot.h.kind : Nat), .bool dot.h.b, .int .i64 dot.h.n, .int .u64 (dot.h.bits : Nat), .string dot.h.text, .slice a1 dot.h.keys.length c1, .slice a2 dot.items.len c2, .int .u8 (root.h.kind : Nat), .bool root.h.b, .int .i64 root.h.n, .int .u64 (root.h.bits : Nat), .string root.h.text, .slice a3 root.h.keys.length c3, .slice a4 root.items.len c4]) (.agg #[.int .u8 (h.kind : Nat), .int .i64 h.pos, .string h.text, .bool h.root, .slice an h.names.length cn, .string h.name, .slice ak kd.len ck, .slice ae el.len ce]) zeroVa none 0 none 0) 1 := by have := hI.val 1 (by omega) (hdep ⟨1, .data⟩ (by simp) rfl); simpa using this
    refine opIn_value ho rfl (v := (hvals h W.heap.size rb l (.agg #[.int .u8 (dot.h.kind : Nat), .bool dot.h.b, .int .i64 dot.h.n, .int .u64 (dot.h.bits : Nat), .string dot.h.text, .slice a1 dot.h.keys.length c1, .slice a2 dot.items.len c2, .int .u8 (root.h.kind : Nat), .bool root.h.b, .int .i64 root.h.n, .int .u64 (root.h.bits : Nat), .string root.h.text, .slice a3 root.h.keys.length c3, .slice a4 root.items.len c4]) (.agg #[.int .u8 (h.kind : Nat), .int .i64 h.pos, .string h.text, .bool h.root, .slice an h.names.length cn, .string h.name, .slice ak kd.len ck, .slice ae el.len ce]) zeroVa none 0 none 0) 2) (w' := w1.drew) ?_ ⟨hI.put 2 (by omega) (by omega) (by omega) _ rfl, by rw [getD_set_other _ _ _ _ _ (by omega)]; exact h10, rfl⟩
    simp [execOp, Act.eval, go_sem, hvals, v1]
  · obtain rfl := Option.some.inj ho
    have v2 : a.tmps[28]?.getD undef = (hvals h W.heap.size rb l (.agg #[.int .u8 (dot.h.kind : Nat), .bool dot.h.b, .int .i64 dot.h.n, .int .u64 (dot.h.bits : Nat), .string dot.h.text, .slice a1 dot.h.keys.length c1, .slice a2 dot.items.len c2, .int .u8 (root.h.kind : Nat), .bool root.h.b, .int .i64 root.h.n, .int .u64 (root.h.bits : Nat), .string root.h.text, .slice a3 root.h.keys.length c3, .slice a4 root.items.len c4]) (.agg #[.int .u8 (h.kind : Nat), .int .i64 h.pos, .string h.text, .bool h.root, .slice an h.names.length cn, .string h.name, .slice ak kd.len ck, .slice ae el.len ce]) zeroVa none 0 none 0) 2 := by have := hI.val 2 (by omega) (hdep ⟨2, .data⟩ (by simp) rfl); simpa using this
    refine opIn_value ho rfl (v := (hvals h W.heap.size rb l (.agg #[.int .u8 (dot.h.kind : Nat), .bool dot.h.b, .int .i64 dot.h.n, .int .u64 (dot.h.bits : Nat), .string dot.h.text, .slice a1 dot.h.keys.length c1, .slice a2 dot.items.len c2, .int .u8 (root.h.kind : Nat), .bool root.h.b, .int .i64 root.h.n, .int .u64 (root.h.bits : Nat), .string root.h.text, .slice a3 root.h.keys.length c3, .slice a4 root.items.len c4]) (.agg #[.int .u8 (h.kind : Nat), .int .i64 h.pos, .string h.text, .bool h.root, .slice an h.names.length cn, .string h.name, .slice ak kd.len ck, .slice ae el.len ce]) zeroVa none 0 none 0) 3) (w' := w1.drew) ?_ ⟨hI.put 3 (by omega) (by omega) (by omega) _ rfl, by rw [getD_set_other _ _ _ _ _ (by omega)]; exact h10, rfl⟩
    simp [execOp, Act.eval, go_sem, hvals, v2]
  · obtain rfl := Option.some.inj ho
    have v3 : a.tmps[29]?.getD undef = (hvals h W.heap.size rb l (.agg #[.int .u8 (dot.h.kind : Nat), .bool dot.h.b, .int .i64 dot.h.n, .int .u64 (dot.h.bits : Nat), .string dot.h.text, .slice a1 dot.h.keys.length c1, .slice a2 dot.items.len c2, .int .u8 (root.h.kind : Nat), .bool root.h.b, .int .i64 root.h.n, .int .u64 (root.h.bits : Nat), .string root.h.text, .slice a3 root.h.keys.length c3, .slice a4 root.items.len c4]) (.agg #[.int .u8 (h.kind : Nat), .int .i64 h.pos, .string h.text, .bool h.root, .slice an h.names.length cn, .string h.name, .slice ak kd.len ck, .slice ae el.len ce]) zeroVa none 0 none 0) 3 := by have := hI.val 3 (by omega) (hdep ⟨3, .data⟩ (by simp) rfl); simpa using this
    refine opIn_value ho rfl (v := (hvals h W.heap.size rb l (.agg #[.int .u8 (dot.h.kind : Nat), .bool dot.h.b, .int .i64 dot.h.n, .int .u64 (dot.h.bits : Nat), .string dot.h.text, .slice a1 dot.h.keys.length c1, .slice a2 dot.items.len c2, .int .u8 (root.h.kind : Nat), .bool root.h.b, .int .i64 root.h.n, .int .u64 (root.h.bits : Nat), .string root.h.text, .slice a3 root.h.keys.length c3, .slice a4 root.items.len c4]) (.agg #[.int .u8 (h.kind : Nat), .int .i64 h.pos, .string h.text, .bool h.root, .slice an h.names.length cn, .string h.name, .slice ak kd.len ck, .slice ae el.len ce]) zeroVa none 0 none 0) 4) (w' := w1.drew) ?_ ⟨hI.put 4 (by omega) (by omega) (by omega) _ rfl, by rw [getD_set_other _ _ _ _ _ (by omega)]; exact h10, rfl⟩
    simp [execOp, Act.eval, go_sem, hvals, v3, r3]
  · obtain rfl := Option.some.inj ho
    refine opIn_value ho rfl (v := (hvals h W.heap.size rb l (.agg #[.int .u8 (dot.h.kind : Nat), .bool dot.h.b, .int .i64 dot.h.n, .int .u64 (dot.h.bits : Nat), .string dot.h.text, .slice a1 dot.h.keys.length c1, .slice a2 dot.items.len c2, .int .u8 (root.h.kind : Nat), .bool root.h.b, .int .i64 root.h.n, .int .u64 (root.h.bits : Nat), .string root.h.text, .slice a3 root.h.keys.length c3, .slice a4 root.items.len c4]) (.agg #[.int .u8 (h.kind : Nat), .int .i64 h.pos, .string h.text, .bool h.root, .slice an h.names.length cn, .string h.name, .slice ak kd.len ck, .slice ae el.len ce]) zeroVa none 0 none 0) 5) (w' := w1.drew) ?_ ⟨hI.put 5 (by omega) (by omega) (by omega) _ rfl, by rw [getD_set_other _ _ _ _ _ (by omega)]; exact h10, rfl⟩
    simp [execOp, Act.eval, go_sem, hvals, t3]
  · obtain rfl := Option.some.inj ho
    have v5 : a.tmps[31]?.getD undef = (hvals h W.heap.size rb l (.agg #[.int .u8 (dot.h.kind : Nat), .bool dot.h.b, .int .i64 dot.h.n, .int .u64 (dot.h.bits : Nat), .string dot.h.text, .slice a1 dot.h.keys.length c1, .slice a2 dot.items.len c2, .int .u8 (root.h.kind : Nat), .bool root.h.b, .int .i64 root.h.n, .int .u64 (root.h.bits : Nat), .string root.h.text, .slice a3 root.h.keys.length c3, .slice a4 root.items.len c4]) (.agg #[.int .u8 (h.kind : Nat), .int .i64 h.pos, .string h.text, .bool h.root, .slice an h.names.length cn, .string h.name, .slice ak kd.len ck, .slice ae el.len ce]) zeroVa none 0 none 0) 5 := by have := hI.val 5 (by omega) (hdep ⟨5, .data⟩ (by simp) rfl); simpa using this
    refine opIn_value ho rfl (v := (hvals h W.heap.size rb l (.agg #[.int .u8 (dot.h.kind : Nat), .bool dot.h.b, .int .i64 dot.h.n, .int .u64 (dot.h.bits : Nat), .string dot.h.text, .slice a1 dot.h.keys.length c1, .slice a2 dot.items.len c2, .int .u8 (root.h.kind : Nat), .bool root.h.b, .int .i64 root.h.n, .int .u64 (root.h.bits : Nat), .string root.h.text, .slice a3 root.h.keys.length c3, .slice a4 root.items.len c4]) (.agg #[.int .u8 (h.kind : Nat), .int .i64 h.pos, .string h.text, .bool h.root, .slice an h.names.length cn, .string h.name, .slice ak kd.len ck, .slice ae el.len ce]) zeroVa none 0 none 0) 6) (w' := w1.drew) ?_ ⟨hI.put 6 (by omega) (by omega) (by omega) _ rfl, by rw [getD_set_other _ _ _ _ _ (by omega)]; exact h10, rfl⟩
    simp [execOp, Act.eval, go_sem, hvals, v5, p1]
  · obtain rfl := Option.some.inj ho
    refine opIn_value ho rfl (v := (hvals h W.heap.size rb l (.agg #[.int .u8 (dot.h.kind : Nat), .bool dot.h.b, .int .i64 dot.h.n, .int .u64 (dot.h.bits : Nat), .string dot.h.text, .slice a1 dot.h.keys.length c1, .slice a2 dot.items.len c2, .int .u8 (root.h.kind : Nat), .bool root.h.b, .int .i64 root.h.n, .int .u64 (root.h.bits : Nat), .string root.h.text, .slice a3 root.h.keys.length c3, .slice a4 root.items.len c4]) (.agg #[.int .u8 (h.kind : Nat), .int .i64 h.pos, .string h.text, .bool h.root, .slice an h.names.length cn, .string h.name, .slice ak kd.len ck, .slice ae el.len ce]) zeroVa none 0 none 0) 7) (w' := w1.drew) ?_ ⟨hI.put 7 (by omega) (by omega) (by omega) _ rfl, by rw [getD_set_other _ _ _ _ _ (by omega)]; exact h10, rfl⟩
    simp [execOp, Act.eval, go_sem, hvals, t2]
  · obtain rfl := Option.some.inj ho
    have v7 : a.tmps[33]?.getD undef = (hvals h W.heap.size rb l (.agg #[.int .u8 (dot.h.kind : Nat), .bool dot.h.b, .int .i64 dot.h.n, .int .u64 (dot.h.bits : Nat), .string dot.h.text, .slice a1 dot.h.keys.length c1, .slice a2 dot.items.len c2, .int .u8 (root.h.kind : Nat), .bool root.h.b, .int .i64 root.h.n, .int .u64 (root.h.bits : Nat), .string root.h.text, .slice a3 root.h.keys.length c3, .slice a4 root.items.len c4]) (.agg #[.int .u8 (h.kind : Nat), .int .i64 h.pos, .string h.text, .bool h.root, .slice an h.names.length cn, .string h.name, .slice ak kd.len ck, .slice ae el.len ce]) zeroVa none 0 none 0) 7 := by have := hI.val 7 (by omega) (hdep ⟨7, .data⟩ (by simp) rfl); simpa using this
    refine opIn_value ho rfl (v := (hvals h W.heap.size rb l (.agg #[.int .u8 (dot.h.kind : Nat), .bool dot.h.b, .int .i64 dot.h.n, .int .u64 (dot.h.bits : Nat), .string dot.h.text, .slice a1 dot.h.keys.length c1, .slice a2 dot.items.len c2, .int .u8 (root.h.kind : Nat), .bool root.h.b, .int .i64 root.h.n, .int .u64 (root.h.bits : Nat), .string root.h.text, .slice a3 root.h.keys.length c3, .slice a4 root.items.len c4]) (.agg #[.int .u8 (h.kind : Nat), .int .i64 h.pos, .string h.text, .bool h.root, .slice an h.names.length cn, .string h.name, .slice ak kd.len ck, .slice ae el.len ce]) zeroVa none 0 none 0) 8) (w' := w1.drew) ?_ ⟨hI.put 8 (by omega) (by omega) (by omega) _ rfl, by rw [getD_set_other _ _ _ _ _ (by omega)]; exact h10, rfl⟩
    simp [execOp, Act.eval, go_sem, hvals, v7, q0, q1, q2, q3, q4, q5, q6, q7, q8, q9, q10, q11, q12, q13]
  · obtain rfl := Option.some.inj ho
    refine opIn_value ho rfl (v := (hvals h W.heap.size rb l (.agg #[.int .u8 (dot.h.kind : Nat), .bool dot.h.b, .int .i64 dot.h.n, .int .u64 (dot.h.bits : Nat), .string dot.h.text, .slice a1 dot.h.keys.length c1, .slice a2 dot.items.len c2, .int .u8 (root.h.kind : Nat), .bool root.h.b, .int .i64 root.h.n, .int .u64 (root.h.bits : Nat), .string root.h.text, .slice a3 root.h.keys.length c3, .slice a4 root.items.len c4]) (.agg #[.int .u8 (h.kind : Nat), .int .i64 h.pos, .string h.text, .bool h.root, .slice an h.names.length cn, .string h.name, .slice ak kd.len ck, .slice ae el.len ce]) zeroVa none 0 none 0) 9) (w' := w1.drew) ?_ ⟨hI.put 9 (by omega) (by omega) (by omega) _ rfl, by rw [getD_set_other _ _ _ _ _ (by omega)]; exact h10, rfl⟩
    simp [execOp, Act.eval, go_sem, hvals, t3, p0, p1, p2, p3, p4, p5, p6, p7]
  · obtain rfl := Option.some.inj ho
    have v8 : a.tmps[34]?.getD undef = (hvals h W.heap.size rb l (.agg #[.int .u8 (dot.h.kind : Nat), .bool dot.h.b, .int .i64 dot.h.n, .int .u64 (dot.h.bits : Nat), .string dot.h.text, .slice a1 dot.h.keys.length c1, .slice a2 dot.items.len c2, .int .u8 (root.h.kind : Nat), .bool root.h.b, .int .i64 root.h.n, .int .u64 (root.h.bits : Nat), .string root.h.text, .slice a3 root.h.keys.length c3, .slice a4 root.items.len c4]) (.agg #[.int .u8 (h.kind : Nat), .int .i64 h.pos, .string h.text, .bool h.root, .slice an h.names.length cn, .string h.name, .slice ak kd.len ck, .slice ae el.len ce]) zeroVa none 0 none 0) 8 := by have := hI.val 8 (by omega) (hdep ⟨8, .data⟩ (by simp) rfl); simpa using this
    have v9 : a.tmps[35]?.getD undef = (hvals h W.heap.size rb l (.agg #[.int .u8 (dot.h.kind : Nat), .bool dot.h.b, .int .i64 dot.h.n, .int .u64 (dot.h.bits : Nat), .string dot.h.text, .slice a1 dot.h.keys.length c1, .slice a2 dot.items.len c2, .int .u8 (root.h.kind : Nat), .bool root.h.b, .int .i64 root.h.n, .int .u64 (root.h.bits : Nat), .string root.h.text, .slice a3 root.h.keys.length c3, .slice a4 root.items.len c4]) (.agg #[.int .u8 (h.kind : Nat), .int .i64 h.pos, .string h.text, .bool h.root, .slice an h.names.length cn, .string h.name, .slice ak kd.len ck, .slice ae el.len ce]) zeroVa none 0 none 0) 9 := by have := hI.val 9 (by omega) (hdep ⟨9, .data⟩ (by simp) rfl); simpa using this
    refine opIn_call (f := 130) (args := #[(.agg #[.int .u8 (dot.h.kind : Nat), .bool dot.h.b, .int .i64 dot.h.n, .int .u64 (dot.h.bits : Nat), .string dot.h.text, .slice a1 dot.h.keys.length c1, .slice a2 dot.items.len c2, .int .u8 (root.h.kind : Nat), .bool root.h.b, .int .i64 root.h.n, .int .u64 (root.h.bits : Nat), .string root.h.text, .slice a3 root.h.keys.length c3, .slice a4 root.items.len c4]), (.agg #[.int .u8 (h.kind : Nat), .int .i64 h.pos, .string h.text, .bool h.root, .slice an h.names.length cn, .string h.name, .slice ak kd.len ck, .slice ae el.len ce])]) (w' := w1.drew) ho rfl ?_ SG.out ?_ ?_ (fun w'' h => by cases h.2)
    · simp [execOp, Act.eval, go_sem, hvals, v8, v9]
    · rintro v w'' ⟨-, hv⟩
      cases hv
    · rintro ch w'' ⟨hb, hv⟩
      cases hv
      exact ⟨hI.dfr, S, [], by rw [List.append_nil]; exact HJJ.out _ _ _ _ HJ1.out ((off_refl S w1).trans (off_below HRUN1.out.lt hb)), rfl, HST1.out.trans ⟨((off_refl _ w1).trans (Off.of_below hb |>.mono fun b hb2 => hb2.1)), fun b hb2 => .inl hb2, fun b hb2 => Nat.lt_of_lt_of_le (HRUN1.out.lt b hb2) hb.size⟩, rfl⟩
  · obtain rfl := Option.some.inj ho
    have := hdep ⟨10, .data⟩ (by simp) rfl
    have := this
    rw [h10] at this
    cases this
  · obtain rfl := Option.some.inj ho
    have := hdep ⟨11, .data⟩ (by simp) rfl
    have := c11_10 this
    rw [h10] at this
    cases this
  · obtain rfl := Option.some.inj ho
    have := hdep ⟨12, .data⟩ (by simp) rfl
    have := c11_10 (c12_11 this)
    rw [h10] at this
    cases this
set_option maxRecDepth 100000 in
set_option maxHeartbeats 40000000 in
theorem part_hole_ok (D : ByteArray → Pt) (C l rb mb : Nat) (J : (Nat → Prop) → List It → World → Prop) (HJ : Lies J) (HY : YieldS l mb J) (dot root : Va) (h : Hd) (kd el : Pt) (deep f : Nat) (S : Nat → Prop) (pre : List It) (W : World) (a1 a2 a3 a4 an ak ae : Option Addr) (c1 c2 c3 c4 cn ck ce : Nat) (hcap : pre.length + (f + 1) ≤ 1000000) (hdc : deep ≤ C) (hsh : h.sm) (hsk : kd.sm) (hse : el.sm) (hck : kd.cnt ≤ 16777216) (hce : el.cnt ≤ 16777216) (hrun : RunA D C l rb mb S (f + 1) W) (hJ : J S pre W) (hok : Okd S rb W dot root a1 a2 a3 a4 c1 c2 c3 c4) (hst : Strs (okS S rb W) W (.slice an h.names.length cn) h.names) (hk : Parts (okS S rb W) W (.slice ak kd.len ck) kd) (he : Parts (okS S rb W) W (.slice ae el.len ce) el) (hk0 : h.kind = 2) (x : Va) (hxs : Va.sm x) (hg : getF h.names (if h.root then root else dot) = .ok x) :
 Calls Tryz.prog 91 #[.agg #[.int .u8 (dot.h.kind : Nat), .bool dot.h.b, .int .i64 dot.h.n, .int .u64 (dot.h.bits : Nat), .string dot.h.text, .slice a1 dot.h.keys.length c1, .slice a2 dot.items.len c2, .int .u8 (root.h.kind : Nat), .bool root.h.b, .int .i64 root.h.n, .int .u64 (root.h.bits : Nat), .string root.h.text, .slice a3 root.h.keys.length c3, .slice a4 root.items.len c4, .int .i64 (deep : Nat), .pointer (some ⟨rb, 0, none⟩)], .agg #[.int .u8 (h.kind : Nat), .int .i64 h.pos, .string h.text, .bool h.root, .slice an h.names.length cn, .string h.name, .slice ak kd.len ck, .slice ae el.len ce]] W (EvP C l rb mb J ⟨[⟨h.pos, true, x, .empty⟩], f, none⟩ S pre W) := by
 have HYY := Lib.hid HY
 have HG := Lib.hid hg
 have HXS := Lib.hid hxs
 clear HY hg hxs
 have j1 : ((h.kind : Int) == 1) = false := by rw [hk0]; rfl
 have j2 : ((h.kind : Int) == 2) = true := by rw [hk0]; rfl
 have j3 : ((h.kind : Int) == 3) = false := by rw [hk0]; rfl
 have j4 : ((h.kind : Int) == 4) = false := by rw [hk0]; rfl
 clear hk0
 have HB0 : Hid (Below W.heap.size W ((W.alloc (.cells #[.int .u8 (dot.h.kind : Nat), .bool dot.h.b, .int .i64 dot.h.n, .int .u64 (dot.h.bits : Nat), .string dot.h.text, .slice a1 dot.h.keys.length c1, .slice a2 dot.items.len c2, .int .u8 (root.h.kind : Nat), .bool root.h.b, .int .i64 root.h.n, .int .u64 (root.h.bits : Nat), .string root.h.text, .slice a3 root.h.keys.length c3, .slice a4 root.items.len c4, .int .i64 (deep : Nat), .pointer (some ⟨rb, 0, none⟩)] 120)).alloc (.cells #[.int .u8 (h.kind : Nat), .int .i64 h.pos, .string h.text, .bool h.root, .slice an h.names.length cn, .string h.name, .slice ak kd.len ck, .slice ae el.len ce] 56))) := (((Below.refl _ W).alloc (Nat.le_refl _) _).alloc (by simp) _)
 have HS0 : Hid (((W.alloc (.cells #[.int .u8 (dot.h.kind : Nat), .bool dot.h.b, .int .i64 dot.h.n, .int .u64 (dot.h.bits : Nat), .string dot.h.text, .slice a1 dot.h.keys.length c1, .slice a2 dot.items.len c2, .int .u8 (root.h.kind : Nat), .bool root.h.b, .int .i64 root.h.n, .int .u64 (root.h.bits : Nat), .string root.h.text, .slice a3 root.h.keys.length c3, .slice a4 root.items.len c4, .int .i64 (deep : Nat), .pointer (some ⟨rb, 0, none⟩)] 120)).alloc (.cells #[.int .u8 (h.kind : Nat), .int .i64 h.pos, .string h.text, .bool h.root, .slice an h.names.length cn, .string h.name, .slice ak kd.len ck, .slice ae el.len ce] 56)).heap.size = W.heap.size + 2) := by unfold Hid; simp
 have HT : Hid (∀ W0, ((W.alloc (.cells #[.int .u8 (dot.h.kind : Nat), .bool dot.h.b, .int .i64 dot.h.n, .int .u64 (dot.h.bits : Nat), .string dot.h.text, .slice a1 dot.h.keys.length c1, .slice a2 dot.items.len c2, .int .u8 (root.h.kind : Nat), .bool root.h.b, .int .i64 root.h.n, .int .u64 (root.h.bits : Nat), .string root.h.text, .slice a3 root.h.keys.length c3, .slice a4 root.items.len c4, .int .i64 (deep : Nat), .pointer (some ⟨rb, 0, none⟩)] 120)).alloc (.cells #[.int .u8 (h.kind : Nat), .int .i64 h.pos, .string h.text, .bool h.root, .slice an h.names.length cn, .string h.name, .slice ak kd.len ck, .slice ae el.len ce] 56)) = W0 → W0.heap[W.heap.size]? = some (.cells #[.int .u8 (dot.h.kind : Nat), .bool dot.h.b, .int .i64 dot.h.n, .int .u64 (dot.h.bits : Nat), .string dot.h.text, .slice a1 dot.h.keys.length c1, .slice a2 dot.items.len c2, .int .u8 (root.h.kind : Nat), .bool root.h.b, .int .i64 root.h.n, .int .u64 (root.h.bits : Nat), .string root.h.text, .slice a3 root.h.keys.length c3, .slice a4 root.items.len c4, .int .i64 (deep : Nat), .pointer (some ⟨rb, 0, none⟩)] 120 (0, 0)) ∧ W0.heap[W.heap.size + 1]? = some (.cells #[.int .u8 (h.kind : Nat), .int .i64 h.pos, .string h.text, .bool h.root, .slice an h.names.length cn, .string h.name, .slice ak kd.len ck, .slice ae el.len ce] 56 (0, 0))) := by
  rintro W0 rfl
  have s1 : (W.alloc (.cells #[.int .u8 (dot.h.kind : Nat), .bool dot.h.b, .int .i64 dot.h.n, .int .u64 (dot.h.bits : Nat), .string dot.h.text, .slice a1 dot.h.keys.length c1, .slice a2 dot.items.len c2, .int .u8 (root.h.kind : Nat), .bool root.h.b, .int .i64 root.h.n, .int .u64 (root.h.bits : Nat), .string root.h.text, .slice a3 root.h.keys.length c3, .slice a4 root.items.len c4, .int .i64 (deep : Nat), .pointer (some ⟨rb, 0, none⟩)] 120 (0, 0))).heap.size = W.heap.size + 1 := by simp
  refine ⟨?_, ?_⟩
  · rw [Below.heap_alloc _ _ _ (by omega)]
    exact heap_alloc_new W _
  · skip
    have := heap_alloc_new (W.alloc (.cells #[.int .u8 (dot.h.kind : Nat), .bool dot.h.b, .int .i64 dot.h.n, .int .u64 (dot.h.bits : Nat), .string dot.h.text, .slice a1 dot.h.keys.length c1, .slice a2 dot.items.len c2, .int .u8 (root.h.kind : Nat), .bool root.h.b, .int .i64 root.h.n, .int .u64 (root.h.bits : Nat), .string root.h.text, .slice a3 root.h.keys.length c3, .slice a4 root.items.len c4, .int .i64 (deep : Nat), .pointer (some ⟨rb, 0, none⟩)] 120 (0, 0))) (.cells #[.int .u8 (h.kind : Nat), .int .i64 h.pos, .string h.text, .bool h.root, .slice an h.names.length cn, .string h.name, .slice ak kd.len ck, .slice ae el.len ce] 56 (0, 0)); rwa [s1] at this
 have hst0 := hrun.stp HB0.out
 have HST0 := Lib.hid hst0
 have HRUN0 := Lib.hid (hrun.below HB0.out)
 have HJ0 := Lib.hid (HJ _ _ _ _ hJ (off_below hrun.lt HB0.out))
 have HJJ := Lib.hid HJ
 have HRUNW := Lib.hid hrun
 have HOKW := Lib.hid hok
 have HSTW := Lib.hid hst
 have HKDW := Lib.hid hk
 have HELW := Lib.hid he
 have HSH := Lib.hid hsh
 clear hst0 hrun hJ hok hst hk he HJ hsh
 go_enter Tryz.func91, Tryz.ntmps91
 go_upto_region 1 with (fail)
 try simp only [Nat.add_assoc, Nat.reduceAdd]
 generalize hWW : World.alloc (World.alloc W _) _ = W0 at *
 obtain ⟨hr0, hp0⟩ := HT.out W0 rfl
 clear hWW HT
 have hz0 : W0.heap.size = W.heap.size + 2 := HS0.out
 have HR0 := Lib.hid hr0
 have HP0 := Lib.hid hp0
 have BC : Hid (Calls Tryz.prog 129 #[.agg #[.int .u8 (dot.h.kind : Nat), .bool dot.h.b, .int .i64 dot.h.n, .int .u64 (dot.h.bits : Nat), .string dot.h.text, .slice a1 dot.h.keys.length c1, .slice a2 dot.items.len c2, .int .u8 (root.h.kind : Nat), .bool root.h.b, .int .i64 root.h.n, .int .u64 (root.h.bits : Nat), .string root.h.text, .slice a3 root.h.keys.length c3, .slice a4 root.items.len c4, .int .i64 (deep : Nat), .pointer (some ⟨rb, 0, none⟩)], .agg #[.int .u8 (h.kind : Nat), .int .i64 h.pos, .string h.text, .bool h.root, .slice an h.names.length cn, .string h.name, .slice ak kd.len ck, .slice ae el.len ce]] W0 (BuP mb C l rb h.pos W0 (f + 1))) :=
  burn_calls dot root h deep rb mb C l (f + 1) HRUN0.out.fl a1 a2 a3 a4 an ak ae c1 c2 c3 c4 cn kd.len ck el.len ce W0 HRUN0.out.rest
 obtain ⟨q0, q1, q2, q3, q4, q5, q6, q7, q8, q9, q10, q11, q12, q13, q14, q15⟩ := runCs (P := W.heap.size) (dot := dot) (root := root) (a1 := a1) (a2 := a2) (a3 := a3) (a4 := a4) (c1 := c1) (c2 := c2) (c3 := c3) (c4 := c4) (deep := deep) (rb := rb) hr0
 obtain ⟨p0, p1, p2, p3, p4, p5, p6, p7⟩ := pcCs (P := W.heap.size + 1) (h := h) hp0
 clear hr0 hp0
 go_wp2_with fail
 refine BC.out.mono ?_
 rintro e w1 ⟨rfl, hre1, hoff1⟩
 have hw1 := hoff1.size
 have HST1 := Lib.hid (HST0.out.trans (stp_burn HRUN0.out.lt hoff1))
 have HRUN1 : Hid (RunA D C l rb mb S f w1) := HRUN0.out.step (stp_burn HRUN0.out.lt hoff1) hre1 (Nat.le_succ f)
 have HJ1 := Lib.hid (HJJ.out _ _ _ _ HJ0.out (hoff1.mono fun b hb => ⟨HRUN0.out.lt b hb, fun e => HRUN0.out.rbS (by rw [← e]; exact hb)⟩))
 have hrl := lt_of_block HRUNW.out.rest
 have HR1 : Hid (w1.heap[W.heap.size]? = some (.cells (runCells dot root a1 a2 a3 a4 c1 c2 c3 c4 deep rb) 120 (0, 0))) := (hoff1.block _ ⟨by omega, by omega⟩).trans HR0.out
 have HP1 : Hid (w1.heap[W.heap.size + 1]? = some (.cells (pCells h (.slice an h.names.length cn) (.slice ak kd.len ck) (.slice ae el.len ce)) 56 (0, 0))) := (hoff1.block _ ⟨by omega, by omega⟩).trans HP0.out
 have HRX : Hid (okS S rb w1 W.heap.size) := HRUNW.out.new (Nat.le_refl _) (by omega)
 have HPX : Hid (okS S rb w1 (W.heap.size + 1)) := HRUNW.out.new (by omega) (by omega)
 have hz1 : W.heap.size + 2 ≤ w1.heap.size := by omega
 clear hre1 hoff1 BC q0 q1 q2 q3 q4 q5 q6 q7 q8 q9 q10 q11 q12 q13 q14 q15 p0 p1 p2 p3 p4 p5 p6 p7
 obtain ⟨p0, p1, p2, p3, p4, p5, p6, p7⟩ := pcCs HP1.out
 go_upto_region 6 with (fail)
 have HRE1 := Lib.hid HRUN1.out.rest
 have hRl := HRX.out.1
 have hPl := HPX.out.1
 have hrl1 := lt_of_block HRE1.out
 have hsl : h.names.length ≤ 140737488351232 := by have := HSH.out.2.2.2.1; omega
 have hs1d : Stp rb S W S w1.drew := ⟨HST1.out.off.trans (off_refl _ w1), HST1.out.grow, HST1.out.lt⟩
 have hok1 := HOKW.out.step hs1d
 have SG : Hid (Calls Tryz.prog 130 #[(.agg #[.int .u8 (dot.h.kind : Nat), .bool dot.h.b, .int .i64 dot.h.n, .int .u64 (dot.h.bits : Nat), .string dot.h.text, .slice a1 dot.h.keys.length c1, .slice a2 dot.items.len c2, .int .u8 (root.h.kind : Nat), .bool root.h.b, .int .i64 root.h.n, .int .u64 (root.h.bits : Nat), .string root.h.text, .slice a3 root.h.keys.length c3, .slice a4 root.items.len c4]), (.agg #[.int .u8 (h.kind : Nat), .int .i64 h.pos, .string h.text, .bool h.root, .slice an h.names.length cn, .string h.name, .slice ak kd.len ck, .slice ae el.len ce])] w1.drew (SgP (getF h.names (if h.root then root else dot)) h.pos w1.drew)) :=
  sget_calls dot root h hok1.dsm hok1.rsm hsl _ a1 a2 a3 a4 an ak ae c1 c2 c3 c4 cn kd.len ck el.len ce w1.drew hok1.dot hok1.root (hs1d.strs HSTW.out)
 rw [HG.out] at SG
 clear hok1
 refine (wpIn_wide (n := 5)).1 (wpIn_region_any (by kernel_rfl) ?_)
 change wpAnyIn _ _ _ _ _ _ _ _ _ w1.drew
 refine anyIn_inv (fun listed a w => ∃ u1 u2 u3 u4 w2, RgI 26 13 93 (hvals h W.heap.size rb l (.agg #[.int .u8 (dot.h.kind : Nat), .bool dot.h.b, .int .i64 dot.h.n, .int .u64 (dot.h.bits : Nat), .string dot.h.text, .slice a1 dot.h.keys.length c1, .slice a2 dot.items.len c2, .int .u8 (root.h.kind : Nat), .bool root.h.b, .int .i64 root.h.n, .int .u64 (root.h.bits : Nat), .string root.h.text, .slice a3 root.h.keys.length c3, .slice a4 root.items.len c4]) (.agg #[.int .u8 (h.kind : Nat), .int .i64 h.pos, .string h.text, .bool h.root, .slice an h.names.length cn, .string h.name, .slice ak kd.len ck, .slice ae el.len ce]) x u1 u2 u3 u4) (.pointer (some ⟨W.heap.size, 0, none⟩)) (.pointer (some ⟨W.heap.size + 1, 0, none⟩)) listed a ∧ (listed.getD 10 false = false → w = w1.drew) ∧ (listed.getD 10 false = true → Below w1.heap.size w1.drew w2 ∧ ValS (Nu w1.heap.size w2) w2 x u1 u2 u3 u4 ∧ (listed.getD 12 false = false → w = w2) ∧ (listed.getD 12 false = true → ∃ S', J S' (pre ++ [⟨⟨h.pos, true, x, .empty⟩, u1, u2, u3, u4, Nu w1.heap.size w2⟩]) w ∧ Turn S (Nu w1.heap.size w2) S' w2 w))) (early_spec (by kernel_rfl)) ?hstep ?hend _ _ _ _ ?hI (by simp) (unl_rep _) (fun j oj _ hj => by simp [Array.getD] at hj)
 case hI => exact ⟨none, 0, none, 0, w1, RgI.start rfl rfl rfl rfl, fun _ => rfl, fun hl => by simp [Array.getD] at hl⟩
 case hend =>
  rintro listed a w ⟨u1, u2, u3, u4, w2, hI, -, h10⟩ hall
  obtain ⟨k1, k2, -, k4⟩ := h10 (hall 10 (by decide))
  obtain ⟨S', hJ', ht⟩ := k4 (hall 12 (by decide))
  have h4 := hI.res (hall 13 (by decide))
  have hdf := hI.dfr
  have hst2 : Stp rb S w1 S w2 := ⟨(off_refl _ w1).trans ((Off.of_below k1).mono fun b hb => hb.1), fun b hb => .inl hb, fun b hb => Nat.lt_of_lt_of_le (HRUN1.out.lt b hb) k1.size⟩
  have hsz2 : w1.heap.size ≤ w2.heap.size := k1.size
  have hst3 : Stp rb S w1 S' w := ⟨hst2.off.trans ⟨ht.off.os, ht.off.tape, ht.off.output, ht.off.size, fun b hb => ht.off.block b ⟨Nat.lt_of_lt_of_le hb.1 hsz2, hb.2.1⟩⟩, fun b hb => by
   rcases ht.grow b hb with h | h | h
   · exact .inl h
   · exact .inr h.1
   · exact .inr (Nat.le_trans hsz2 h), ht.lt⟩
  have hfin : EvP C l rb mb J ⟨[⟨h.pos, true, x, .empty⟩], f, none⟩ S pre W (.returned (.bool true)) w :=
   ⟨S', _, hJ', rfl, HST1.out.trans hst3, rfl, (ht.off.block rb ⟨by omega, HRUN1.out.rbS⟩).trans ((k1.block rb hrl1).trans HRE1.out)⟩
  obtain ⟨tmps, defers⟩ := a
  obtain rfl : defers = [] := hdf
  have h4' : tmps[4]?.getD undef = .bool true := by rw [← h4]; simp
  have HFIN := Lib.hid hfin
  clear hI h10 hall hJ' ht hfin h4 k1 k2 k4 hst2 hst3
  go_wp2_with fail
  exact ⟨rfl, _, by simp [results, Tryz.results91, h4', go_sem], HFIN.out⟩
 case hstep =>
  rintro listed a w i o ⟨u1, u2, u3, u4, w2, hI, h0, h1⟩ hsz ho hun hdep hcl
  have hi14 : i < 14 := (Array.getElem?_eq_some_iff.1 ho).1
  have c1_0 : listed.getD 1 false = true → listed.getD 0 false = true := fun hj => hcl 1 _ rfl hj ⟨0, .data⟩ (by simp) rfl
  have c2_1 : listed.getD 2 false = true → listed.getD 1 false = true := fun hj => hcl 2 _ rfl hj ⟨1, .data⟩ (by simp) rfl
  have c3_2 : listed.getD 3 false = true → listed.getD 2 false = true := fun hj => hcl 3 _ rfl hj ⟨2, .data⟩ (by simp) rfl
  have c4_3 : listed.getD 4 false = true → listed.getD 3 false = true := fun hj => hcl 4 _ rfl hj ⟨3, .data⟩ (by simp) rfl
  have c6_5 : listed.getD 6 false = true → listed.getD 5 false = true := fun hj => hcl 6 _ rfl hj ⟨5, .data⟩ (by simp) rfl
  have c8_7 : listed.getD 8 false = true → listed.getD 7 false = true := fun hj => hcl 8 _ rfl hj ⟨7, .data⟩ (by simp) rfl
  have c10_8 : listed.getD 10 false = true → listed.getD 8 false = true := fun hj => hcl 10 _ rfl hj ⟨8, .data⟩ (by simp) rfl
  have c10_9 : listed.getD 10 false = true → listed.getD 9 false = true := fun hj => hcl 10 _ rfl hj ⟨9, .data⟩ (by simp) rfl
  have c11_6 : listed.getD 11 false = true → listed.getD 6 false = true := fun hj => hcl 11 _ rfl hj ⟨6, .data⟩ (by simp) rfl
  have c11_10 : listed.getD 11 false = true → listed.getD 10 false = true := fun hj => hcl 11 _ rfl hj ⟨10, .data⟩ (by simp) rfl
  have c12_4 : listed.getD 12 false = true → listed.getD 4 false = true := fun hj => hcl 12 _ rfl hj ⟨4, .data⟩ (by simp) rfl
  have c12_11 : listed.getD 12 false = true → listed.getD 11 false = true := fun hj => hcl 12 _ rfl hj ⟨11, .data⟩ (by simp) rfl
  have c13_12 : listed.getD 13 false = true → listed.getD 12 false = true := fun hj => hcl 13 _ rfl hj ⟨12, .data⟩ (by simp) rfl
  have t2 : a.tmps[2]?.getD undef = .pointer (some ⟨W.heap.size, 0, none⟩) := by rw [← hI.t2]; simp
  have t3 : a.tmps[3]?.getD undef = .pointer (some ⟨W.heap.size + 1, 0, none⟩) := by rw [← hI.t3]; simp
  rcases (by omega : i = 0 ∨ i = 1 ∨ i = 2 ∨ i = 3 ∨ i = 4 ∨ i = 5 ∨ i = 6 ∨ i = 7 ∨ i = 8 ∨ i = 9 ∨ i = 10 ∨ i = 11 ∨ i = 12 ∨ i = 13) with rfl | rfl | rfl | rfl | rfl | rfl | rfl | rfl | rfl | rfl | rfl | rfl | rfl | rfl
  · obtain rfl := Option.some.inj ho
    have hx12 : listed.getD 12 false = false := by
     cases hx : listed.getD 12 false with
     | false => rfl
     | true => have := (c1_0 (c2_1 (c3_2 (c4_3 (c12_4 hx))))); rw [hun] at this; cases this
    have hbw : Below w1.heap.size w1.drew w := by
     cases hx : listed.getD 10 false with
     | false => rw [h0 hx]; exact Below.refl _ _
     | true => rw [(h1 hx).2.2.1 hx12]; exact (h1 hx).1
    refine opIn_value ho rfl (v := (hvals h W.heap.size rb l (.agg #[.int .u8 (dot.h.kind : Nat), .bool dot.h.b, .int .i64 dot.h.n, .int .u64 (dot.h.bits : Nat), .string dot.h.text, .slice a1 dot.h.keys.length c1, .slice a2 dot.items.len c2, .int .u8 (root.h.kind : Nat), .bool root.h.b, .int .i64 root.h.n, .int .u64 (root.h.bits : Nat), .string root.h.text, .slice a3 root.h.keys.length c3, .slice a4 root.items.len c4]) (.agg #[.int .u8 (h.kind : Nat), .int .i64 h.pos, .string h.text, .bool h.root, .slice an h.names.length cn, .string h.name, .slice ak kd.len ck, .slice ae el.len ce]) x u1 u2 u3 u4) 0) (w' := w) ?_ ⟨u1, u2, u3, u4, w2, hI.put 0 (by omega) (by omega) (by omega) _ rfl, fun hl => h0 (by rwa [getD_set_other _ _ _ _ _ (by omega)] at hl), fun hl => by (rw [getD_set_other _ _ _ _ _ (by omega)] at hl; obtain ⟨k1, k2, k3, k4⟩ := h1 hl; exact ⟨k1, k2, fun hm => k3 (by rwa [getD_set_other _ _ _ _ _ (by omega)] at hm), fun hm => k4 (by rwa [getD_set_other _ _ _ _ _ (by omega)] at hm)⟩)⟩
    simp [execOp, Act.eval, go_sem, hvals, t2]
  · obtain rfl := Option.some.inj ho
    have hx12 : listed.getD 12 false = false := by
     cases hx : listed.getD 12 false with
     | false => rfl
     | true => have := (c2_1 (c3_2 (c4_3 (c12_4 hx)))); rw [hun] at this; cases this
    have hbw : Below w1.heap.size w1.drew w := by
     cases hx : listed.getD 10 false with
     | false => rw [h0 hx]; exact Below.refl _ _
     | true => rw [(h1 hx).2.2.1 hx12]; exact (h1 hx).1
    have v0 : a.tmps[26]?.getD undef = (hvals h W.heap.size rb l (.agg #[.int .u8 (dot.h.kind : Nat), .bool dot.h.b, .int .i64 dot.h.n, .int .u64 (dot.h.bits : Nat), .string dot.h.text, .slice a1 dot.h.keys.length c1, .slice a2 dot.items.len c2, .int .u8 (root.h.kind : Nat), .bool root.h.b, .int .i64 root.h.n, .int .u64 (root.h.bits : Nat), .string root.h.text, .slice a3 root.h.keys.length c3, .slice a4 root.items.len c4]) (.agg #[.int .u8 (h.kind : Nat), .int .i64 h.pos, .string h.text, .bool h.root, .slice an h.names.length cn, .string h.name, .slice ak kd.len ck, .slice ae el.len ce]) x u1 u2 u3 u4) 0 := by have := hI.val 0 (by omega) (hdep ⟨0, .data⟩ (by simp) rfl); simpa using this
    obtain ⟨q0, q1, q2, q3, q4, q5, q6, q7, q8, q9, q10, q11, q12, q13, q14, q15⟩ := runCs ((hbw.block _ hRl).trans HR1.out)
    refine opIn_value ho rfl (v := (hvals h W.heap.size rb l (.agg #[.int .u8 (dot.h.kind : Nat), .bool dot.h.b, .int .i64 dot.h.n, .int .u64 (dot.h.bits : Nat), .string dot.h.text, .slice a1 dot.h.keys.length c1, .slice a2 dot.items.len c2, .int .u8 (root.h.kind : Nat), .bool root.h.b, .int .i64 root.h.n, .int .u64 (root.h.bits : Nat), .string root.h.text, .slice a3 root.h.keys.length c3, .slice a4 root.items.len c4]) (.agg #[.int .u8 (h.kind : Nat), .int .i64 h.pos, .string h.text, .bool h.root, .slice an h.names.length cn, .string h.name, .slice ak kd.len ck, .slice ae el.len ce]) x u1 u2 u3 u4) 1) (w' := w) ?_ ⟨u1, u2, u3, u4, w2, hI.put 1 (by omega) (by omega) (by omega) _ rfl, fun hl => h0 (by rwa [getD_set_other _ _ _ _ _ (by omega)] at hl), fun hl => by (rw [getD_set_other _ _ _ _ _ (by omega)] at hl; obtain ⟨k1, k2, k3, k4⟩ := h1 hl; exact ⟨k1, k2, fun hm => k3 (by rwa [getD_set_other _ _ _ _ _ (by omega)] at hm), fun hm => k4 (by rwa [getD_set_other _ _ _ _ _ (by omega)] at hm)⟩)⟩
    simp [execOp, Act.eval, go_sem, hvals, v0, q15]
  · obtain rfl := Option.some.inj ho
    have hx12 : listed.getD 12 false = false := by
     cases hx : listed.getD 12 false with
     | false => rfl
     | true => have := (c3_2 (c4_3 (c12_4 hx))); rw [hun] at this; cases this
    have hbw : Below w1.heap.size w1.drew w := by
     cases hx : listed.getD 10 false with
     | false => rw [h0 hx]; exact Below.refl _ _
     | true => rw [(h1 hx).2.2.1 hx12]; exact (h1 hx).1
    have v1 : a.tmps[27]?.getD undef = (hvals h W.heap.size rb l (.agg #[.int .u8 (dot.h.kind : Nat), .bool dot.h.b, .int .i64 dot.h.n, .int .u64 (dot.h.bits : Nat), .string dot.h.text, .slice a1 dot.h.keys.length c1, .slice a2 dot.items.len c2, .int .u8 (root.h.kind : Nat), .bool root.h.b, .int .i64 root.h.n, .int .u64 (root.h.bits : Nat), .string root.h.text, .slice a3 root.h.keys.length c3, .slice a4 root.items.len c4]) (.agg #[.int .u8 (h.kind : Nat), .int .i64 h.pos, .string h.text, .bool h.root, .slice an h.names.length cn, .string h.name, .slice ak kd.len ck, .slice ae el.len ce]) x u1 u2 u3 u4) 1 := by have := hI.val 1 (by omega) (hdep ⟨1, .data⟩ (by simp) rfl); simpa using this
    refine opIn_value ho rfl (v := (hvals h W.heap.size rb l (.agg #[.int .u8 (dot.h.kind : Nat), .bool dot.h.b, .int .i64 dot.h.n, .int .u64 (dot.h.bits : Nat), .string dot.h.text, .slice a1 dot.h.keys.length c1, .slice a2 dot.items.len c2, .int .u8 (root.h.kind : Nat), .bool root.h.b, .int .i64 root.h.n, .int .u64 (root.h.bits : Nat), .string root.h.text, .slice a3 root.h.keys.length c3, .slice a4 root.items.len c4]) (.agg #[.int .u8 (h.kind : Nat), .int .i64 h.pos, .string h.text, .bool h.root, .slice an h.names.length cn, .string h.name, .slice ak kd.len ck, .slice ae el.len ce]) x u1 u2 u3 u4) 2) (w' := w) ?_ ⟨u1, u2, u3, u4, w2, hI.put 2 (by omega) (by omega) (by omega) _ rfl, fun hl => h0 (by rwa [getD_set_other _ _ _ _ _ (by omega)] at hl), fun hl => by (rw [getD_set_other _ _ _ _ _ (by omega)] at hl; obtain ⟨k1, k2, k3, k4⟩ := h1 hl; exact ⟨k1, k2, fun hm => k3 (by rwa [getD_set_other _ _ _ _ _ (by omega)] at hm), fun hm => k4 (by rwa [getD_set_other _ _ _ _ _ (by omega)] at hm)⟩)⟩
    simp [execOp, Act.eval, go_sem, hvals, v1]
  · obtain rfl := Option.some.inj ho
    have hx12 : listed.getD 12 false = false := by
     cases hx : listed.getD 12 false with
     | false => rfl
     | true => have := (c4_3 (c12_4 hx)); rw [hun] at this; cases this
    have hbw : Below w1.heap.size w1.drew w := by
     cases hx : listed.getD 10 false with
     | false => rw [h0 hx]; exact Below.refl _ _
     | true => rw [(h1 hx).2.2.1 hx12]; exact (h1 hx).1
    have v2 : a.tmps[28]?.getD undef = (hvals h W.heap.size rb l (.agg #[.int .u8 (dot.h.kind : Nat), .bool dot.h.b, .int .i64 dot.h.n, .int .u64 (dot.h.bits : Nat), .string dot.h.text, .slice a1 dot.h.keys.length c1, .slice a2 dot.items.len c2, .int .u8 (root.h.kind : Nat), .bool root.h.b, .int .i64 root.h.n, .int .u64 (root.h.bits : Nat), .string root.h.text, .slice a3 root.h.keys.length c3, .slice a4 root.items.len c4]) (.agg #[.int .u8 (h.kind : Nat), .int .i64 h.pos, .string h.text, .bool h.root, .slice an h.names.length cn, .string h.name, .slice ak kd.len ck, .slice ae el.len ce]) x u1 u2 u3 u4) 2 := by have := hI.val 2 (by omega) (hdep ⟨2, .data⟩ (by simp) rfl); simpa using this
    refine opIn_value ho rfl (v := (hvals h W.heap.size rb l (.agg #[.int .u8 (dot.h.kind : Nat), .bool dot.h.b, .int .i64 dot.h.n, .int .u64 (dot.h.bits : Nat), .string dot.h.text, .slice a1 dot.h.keys.length c1, .slice a2 dot.items.len c2, .int .u8 (root.h.kind : Nat), .bool root.h.b, .int .i64 root.h.n, .int .u64 (root.h.bits : Nat), .string root.h.text, .slice a3 root.h.keys.length c3, .slice a4 root.items.len c4]) (.agg #[.int .u8 (h.kind : Nat), .int .i64 h.pos, .string h.text, .bool h.root, .slice an h.names.length cn, .string h.name, .slice ak kd.len ck, .slice ae el.len ce]) x u1 u2 u3 u4) 3) (w' := w) ?_ ⟨u1, u2, u3, u4, w2, hI.put 3 (by omega) (by omega) (by omega) _ rfl, fun hl => h0 (by rwa [getD_set_other _ _ _ _ _ (by omega)] at hl), fun hl => by (rw [getD_set_other _ _ _ _ _ (by omega)] at hl; obtain ⟨k1, k2, k3, k4⟩ := h1 hl; exact ⟨k1, k2, fun hm => k3 (by rwa [getD_set_other _ _ _ _ _ (by omega)] at hm), fun hm => k4 (by rwa [getD_set_other _ _ _ _ _ (by omega)] at hm)⟩)⟩
    simp [execOp, Act.eval, go_sem, hvals, v2]
  · obtain rfl := Option.some.inj ho
    have hx12 : listed.getD 12 false = false := by
     cases hx : listed.getD 12 false with
     | false => rfl
     | true => have := (c12_4 hx); rw [hun] at this; cases this
    have hbw : Below w1.heap.size w1.drew w := by
     cases hx : listed.getD 10 false with
     | false => rw [h0 hx]; exact Below.refl _ _
     | true => rw [(h1 hx).2.2.1 hx12]; exact (h1 hx).1
    have v3 : a.tmps[29]?.getD undef = (hvals h W.heap.size rb l (.agg #[.int .u8 (dot.h.kind : Nat), .bool dot.h.b, .int .i64 dot.h.n, .int .u64 (dot.h.bits : Nat), .string dot.h.text, .slice a1 dot.h.keys.length c1, .slice a2 dot.items.len c2, .int .u8 (root.h.kind : Nat), .bool root.h.b, .int .i64 root.h.n, .int .u64 (root.h.bits : Nat), .string root.h.text, .slice a3 root.h.keys.length c3, .slice a4 root.items.len c4]) (.agg #[.int .u8 (h.kind : Nat), .int .i64 h.pos, .string h.text, .bool h.root, .slice an h.names.length cn, .string h.name, .slice ak kd.len ck, .slice ae el.len ce]) x u1 u2 u3 u4) 3 := by have := hI.val 3 (by omega) (hdep ⟨3, .data⟩ (by simp) rfl); simpa using this
    have r3 : w.cell? ⟨rb, 3, none⟩ = some (.func (.yield l) #[] #[]) := by rw [cell_of_heap' ((hbw.block _ hrl1).trans HRE1.out)]; rfl
    refine opIn_value ho rfl (v := (hvals h W.heap.size rb l (.agg #[.int .u8 (dot.h.kind : Nat), .bool dot.h.b, .int .i64 dot.h.n, .int .u64 (dot.h.bits : Nat), .string dot.h.text, .slice a1 dot.h.keys.length c1, .slice a2 dot.items.len c2, .int .u8 (root.h.kind : Nat), .bool root.h.b, .int .i64 root.h.n, .int .u64 (root.h.bits : Nat), .string root.h.text, .slice a3 root.h.keys.length c3, .slice a4 root.items.len c4]) (.agg #[.int .u8 (h.kind : Nat), .int .i64 h.pos, .string h.text, .bool h.root, .slice an h.names.length cn, .string h.name, .slice ak kd.len ck, .slice ae el.len ce]) x u1 u2 u3 u4) 4) (w' := w) ?_ ⟨u1, u2, u3, u4, w2, hI.put 4 (by omega) (by omega) (by omega) _ rfl, fun hl => h0 (by rwa [getD_set_other _ _ _ _ _ (by omega)] at hl), fun hl => by (rw [getD_set_other _ _ _ _ _ (by omega)] at hl; obtain ⟨k1, k2, k3, k4⟩ := h1 hl; exact ⟨k1, k2, fun hm => k3 (by rwa [getD_set_other _ _ _ _ _ (by omega)] at hm), fun hm => k4 (by rwa [getD_set_other _ _ _ _ _ (by omega)] at hm)⟩)⟩
    simp [execOp, Act.eval, go_sem, hvals, v3, r3]
  · obtain rfl := Option.some.inj ho
    have hx12 : listed.getD 12 false = false := by
     cases hx : listed.getD 12 false with
     | false => rfl
     | true => have := (c6_5 (c11_6 (c12_11 hx))); rw [hun] at this; cases this
    have hbw : Below w1.heap.size w1.drew w := by
     cases hx : listed.getD 10 false with
     | false => rw [h0 hx]; exact Below.refl _ _
     | true => rw [(h1 hx).2.2.1 hx12]; exact (h1 hx).1
    refine opIn_value ho rfl (v := (hvals h W.heap.size rb l (.agg #[.int .u8 (dot.h.kind : Nat), .bool dot.h.b, .int .i64 dot.h.n, .int .u64 (dot.h.bits : Nat), .string dot.h.text, .slice a1 dot.h.keys.length c1, .slice a2 dot.items.len c2, .int .u8 (root.h.kind : Nat), .bool root.h.b, .int .i64 root.h.n, .int .u64 (root.h.bits : Nat), .string root.h.text, .slice a3 root.h.keys.length c3, .slice a4 root.items.len c4]) (.agg #[.int .u8 (h.kind : Nat), .int .i64 h.pos, .string h.text, .bool h.root, .slice an h.names.length cn, .string h.name, .slice ak kd.len ck, .slice ae el.len ce]) x u1 u2 u3 u4) 5) (w' := w) ?_ ⟨u1, u2, u3, u4, w2, hI.put 5 (by omega) (by omega) (by omega) _ rfl, fun hl => h0 (by rwa [getD_set_other _ _ _ _ _ (by omega)] at hl), fun hl => by (rw [getD_set_other _ _ _ _ _ (by omega)] at hl; obtain ⟨k1, k2, k3, k4⟩ := h1 hl; exact ⟨k1, k2, fun hm => k3 (by rwa [getD_set_other _ _ _ _ _ (by omega)] at hm), fun hm => k4 (by rwa [getD_set_other _ _ _ _ _ (by omega)] at hm)⟩)⟩
    simp [execOp, Act.eval, go_sem, hvals, t3]
  · obtain rfl := Option.some.inj ho
    have hx12 : listed.getD 12 false = false := by
     cases hx : listed.getD 12 false with
     | false => rfl
     | true => have := (c11_6 (c12_11 hx)); rw [hun] at this; cases this
    have hbw : Below w1.heap.size w1.drew w := by
     cases hx : listed.getD 10 false with
     | false => rw [h0 hx]; exact Below.refl _ _
     | true => rw [(h1 hx).2.2.1 hx12]; exact (h1 hx).1
    have v5 : a.tmps[31]?.getD undef = (hvals h W.heap.size rb l (.agg #[.int .u8 (dot.h.kind : Nat), .bool dot.h.b, .int .i64 dot.h.n, .int .u64 (dot.h.bits : Nat), .string dot.h.text, .slice a1 dot.h.keys.length c1, .slice a2 dot.items.len c2, .int .u8 (root.h.kind : Nat), .bool root.h.b, .int .i64 root.h.n, .int .u64 (root.h.bits : Nat), .string root.h.text, .slice a3 root.h.keys.length c3, .slice a4 root.items.len c4]) (.agg #[.int .u8 (h.kind : Nat), .int .i64 h.pos, .string h.text, .bool h.root, .slice an h.names.length cn, .string h.name, .slice ak kd.len ck, .slice ae el.len ce]) x u1 u2 u3 u4) 5 := by have := hI.val 5 (by omega) (hdep ⟨5, .data⟩ (by simp) rfl); simpa using this
    obtain ⟨p0, p1, p2, p3, p4, p5, p6, p7⟩ := pcCs ((hbw.block _ hPl).trans HP1.out)
    refine opIn_value ho rfl (v := (hvals h W.heap.size rb l (.agg #[.int .u8 (dot.h.kind : Nat), .bool dot.h.b, .int .i64 dot.h.n, .int .u64 (dot.h.bits : Nat), .string dot.h.text, .slice a1 dot.h.keys.length c1, .slice a2 dot.items.len c2, .int .u8 (root.h.kind : Nat), .bool root.h.b, .int .i64 root.h.n, .int .u64 (root.h.bits : Nat), .string root.h.text, .slice a3 root.h.keys.length c3, .slice a4 root.items.len c4]) (.agg #[.int .u8 (h.kind : Nat), .int .i64 h.pos, .string h.text, .bool h.root, .slice an h.names.length cn, .string h.name, .slice ak kd.len ck, .slice ae el.len ce]) x u1 u2 u3 u4) 6) (w' := w) ?_ ⟨u1, u2, u3, u4, w2, hI.put 6 (by omega) (by omega) (by omega) _ rfl, fun hl => h0 (by rwa [getD_set_other _ _ _ _ _ (by omega)] at hl), fun hl => by (rw [getD_set_other _ _ _ _ _ (by omega)] at hl; obtain ⟨k1, k2, k3, k4⟩ := h1 hl; exact ⟨k1, k2, fun hm => k3 (by rwa [getD_set_other _ _ _ _ _ (by omega)] at hm), fun hm => k4 (by rwa [getD_set_other _ _ _ _ _ (by omega)] at hm)⟩)⟩
    simp [execOp, Act.eval, go_sem, hvals, v5, p1]
  · obtain rfl := Option.some.inj ho
    have hx12 : listed.getD 12 false = false := by
     cases hx : listed.getD 12 false with
     | false => rfl
     | true => have := (c8_7 (c10_8 (c11_10 (c12_11 hx)))); rw [hun] at this; cases this
    have hbw : Below w1.heap.size w1.drew w := by
     cases hx : listed.getD 10 false with
     | false => rw [h0 hx]; exact Below.refl _ _
     | true => rw [(h1 hx).2.2.1 hx12]; exact (h1 hx).1
    refine opIn_value ho rfl (v := (hvals h W.heap.size rb l (.agg #[.int .u8 (dot.h.kind : Nat), .bool dot.h.b, .int .i64 dot.h.n, .int .u64 (dot.h.bits : Nat), .string dot.h.text, .slice a1 dot.h.keys.length c1, .slice a2 dot.items.len c2, .int .u8 (root.h.kind : Nat), .bool root.h.b, .int .i64 root.h.n, .int .u64 (root.h.bits : Nat), .string root.h.text, .slice a3 root.h.keys.length c3, .slice a4 root.items.len c4]) (.agg #[.int .u8 (h.kind : Nat), .int .i64 h.pos, .string h.text, .bool h.root, .slice an h.names.length cn, .string h.name, .slice ak kd.len ck, .slice ae el.len ce]) x u1 u2 u3 u4) 7) (w' := w) ?_ ⟨u1, u2, u3, u4, w2, hI.put 7 (by omega) (by omega) (by omega) _ rfl, fun hl => h0 (by rwa [getD_set_other _ _ _ _ _ (by omega)] at hl), fun hl => by (rw [getD_set_other _ _ _ _ _ (by omega)] at hl; obtain ⟨k1, k2, k3, k4⟩ := h1 hl; exact ⟨k1, k2, fun hm => k3 (by rwa [getD_set_other _ _ _ _ _ (by omega)] at hm), fun hm => k4 (by rwa [getD_set_other _ _ _ _ _ (by omega)] at hm)⟩)⟩
    simp [execOp, Act.eval, go_sem, hvals, t2]
  · obtain rfl := Option.some.inj ho
    have hx12 : listed.getD 12 false = false := by
     cases hx : listed.getD 12 false with
     | false => rfl
     | true => have := (c10_8 (c11_10 (c12_11 hx))); rw [hun] at this; cases this
    have hbw : Below w1.heap.size w1.drew w := by
     cases hx : listed.getD 10 false with
     | false => rw [h0 hx]; exact Below.refl _ _
     | true => rw [(h1 hx).2.2.1 hx12]; exact (h1 hx).1
    have v7 : a.tmps[33]?.getD undef = (hvals h W.heap.size rb l (.agg #[.int .u8 (dot.h.kind : Nat), .bool dot.h.b, .int .i64 dot.h.n, .int .u64 (dot.h.bits : Nat), .string dot.h.text, .slice a1 dot.h.keys.length c1, .slice a2 dot.items.len c2, .int .u8 (root.h.kind : Nat), .bool root.h.b, .int .i64 root.h.n, .int .u64 (root.h.bits : Nat), .string root.h.text, .slice a3 root.h.keys.length c3, .slice a4 root.items.len c4]) (.agg #[.int .u8 (h.kind : Nat), .int .i64 h.pos, .string h.text, .bool h.root, .slice an h.names.length cn, .string h.name, .slice ak kd.len ck, .slice ae el.len ce]) x u1 u2 u3 u4) 7 := by have := hI.val 7 (by omega) (hdep ⟨7, .data⟩ (by simp) rfl); simpa using this
    obtain ⟨q0, q1, q2, q3, q4, q5, q6, q7, q8, q9, q10, q11, q12, q13, q14, q15⟩ := runCs ((hbw.block _ hRl).trans HR1.out)
    refine opIn_value ho rfl (v := (hvals h W.heap.size rb l (.agg #[.int .u8 (dot.h.kind : Nat), .bool dot.h.b, .int .i64 dot.h.n, .int .u64 (dot.h.bits : Nat), .string dot.h.text, .slice a1 dot.h.keys.length c1, .slice a2 dot.items.len c2, .int .u8 (root.h.kind : Nat), .bool root.h.b, .int .i64 root.h.n, .int .u64 (root.h.bits : Nat), .string root.h.text, .slice a3 root.h.keys.length c3, .slice a4 root.items.len c4]) (.agg #[.int .u8 (h.kind : Nat), .int .i64 h.pos, .string h.text, .bool h.root, .slice an h.names.length cn, .string h.name, .slice ak kd.len ck, .slice ae el.len ce]) x u1 u2 u3 u4) 8) (w' := w) ?_ ⟨u1, u2, u3, u4, w2, hI.put 8 (by omega) (by omega) (by omega) _ rfl, fun hl => h0 (by rwa [getD_set_other _ _ _ _ _ (by omega)] at hl), fun hl => by (rw [getD_set_other _ _ _ _ _ (by omega)] at hl; obtain ⟨k1, k2, k3, k4⟩ := h1 hl; exact ⟨k1, k2, fun hm => k3 (by rwa [getD_set_other _ _ _ _ _ (by omega)] at hm), fun hm => k4 (by rwa [getD_set_other _ _ _ _ _ (by omega)] at hm)⟩)⟩
    simp [execOp, Act.eval, go_sem, hvals, v7, q0, q1, q2, q3, q4, q5, q6, q7, q8, q9, q10, q11, q12, q13]
  · obtain rfl := Option.some.inj ho
    have hx12 : listed.getD 12 false = false := by
     cases hx : listed.getD 12 false with
     | false => rfl
     | true => have := (c10_9 (c11_10 (c12_11 hx))); rw [hun] at this; cases this
    have hbw : Below w1.heap.size w1.drew w := by
     cases hx : listed.getD 10 false with
     | false => rw [h0 hx]; exact Below.refl _ _
     | true => rw [(h1 hx).2.2.1 hx12]; exact (h1 hx).1
    obtain ⟨p0, p1, p2, p3, p4, p5, p6, p7⟩ := pcCs ((hbw.block _ hPl).trans HP1.out)
    refine opIn_value ho rfl (v := (hvals h W.heap.size rb l (.agg #[.int .u8 (dot.h.kind : Nat), .bool dot.h.b, .int .i64 dot.h.n, .int .u64 (dot.h.bits : Nat), .string dot.h.text, .slice a1 dot.h.keys.length c1, .slice a2 dot.items.len c2, .int .u8 (root.h.kind : Nat), .bool root.h.b, .int .i64 root.h.n, .int .u64 (root.h.bits : Nat), .string root.h.text, .slice a3 root.h.keys.length c3, .slice a4 root.items.len c4]) (.agg #[.int .u8 (h.kind : Nat), .int .i64 h.pos, .string h.text, .bool h.root, .slice an h.names.length cn, .string h.name, .slice ak kd.len ck, .slice ae el.len ce]) x u1 u2 u3 u4) 9) (w' := w) ?_ ⟨u1, u2, u3, u4, w2, hI.put 9 (by omega) (by omega) (by omega) _ rfl, fun hl => h0 (by rwa [getD_set_other _ _ _ _ _ (by omega)] at hl), fun hl => by (rw [getD_set_other _ _ _ _ _ (by omega)] at hl; obtain ⟨k1, k2, k3, k4⟩ := h1 hl; exact ⟨k1, k2, fun hm => k3 (by rwa [getD_set_other _ _ _ _ _ (by omega)] at hm), fun hm => k4 (by rwa [getD_set_other _ _ _ _ _ (by omega)] at hm)⟩)⟩
    simp [execOp, Act.eval, go_sem, hvals, t3, p0, p1, p2, p3, p4, p5, p6, p7]
  · obtain rfl := Option.some.inj ho
    obtain rfl := h0 hun
    have v8 : a.tmps[34]?.getD undef = (hvals h W.heap.size rb l (.agg #[.int .u8 (dot.h.kind : Nat), .bool dot.h.b, .int .i64 dot.h.n, .int .u64 (dot.h.bits : Nat), .string dot.h.text, .slice a1 dot.h.keys.length c1, .slice a2 dot.items.len c2, .int .u8 (root.h.kind : Nat), .bool root.h.b, .int .i64 root.h.n, .int .u64 (root.h.bits : Nat), .string root.h.text, .slice a3 root.h.keys.length c3, .slice a4 root.items.len c4]) (.agg #[.int .u8 (h.kind : Nat), .int .i64 h.pos, .string h.text, .bool h.root, .slice an h.names.length cn, .string h.name, .slice ak kd.len ck, .slice ae el.len ce]) x u1 u2 u3 u4) 8 := by have := hI.val 8 (by omega) (hdep ⟨8, .data⟩ (by simp) rfl); simpa using this
    have v9 : a.tmps[35]?.getD undef = (hvals h W.heap.size rb l (.agg #[.int .u8 (dot.h.kind : Nat), .bool dot.h.b, .int .i64 dot.h.n, .int .u64 (dot.h.bits : Nat), .string dot.h.text, .slice a1 dot.h.keys.length c1, .slice a2 dot.items.len c2, .int .u8 (root.h.kind : Nat), .bool root.h.b, .int .i64 root.h.n, .int .u64 (root.h.bits : Nat), .string root.h.text, .slice a3 root.h.keys.length c3, .slice a4 root.items.len c4]) (.agg #[.int .u8 (h.kind : Nat), .int .i64 h.pos, .string h.text, .bool h.root, .slice an h.names.length cn, .string h.name, .slice ak kd.len ck, .slice ae el.len ce]) x u1 u2 u3 u4) 9 := by have := hI.val 9 (by omega) (hdep ⟨9, .data⟩ (by simp) rfl); simpa using this
    refine opIn_call (f := 130) (args := #[(.agg #[.int .u8 (dot.h.kind : Nat), .bool dot.h.b, .int .i64 dot.h.n, .int .u64 (dot.h.bits : Nat), .string dot.h.text, .slice a1 dot.h.keys.length c1, .slice a2 dot.items.len c2, .int .u8 (root.h.kind : Nat), .bool root.h.b, .int .i64 root.h.n, .int .u64 (root.h.bits : Nat), .string root.h.text, .slice a3 root.h.keys.length c3, .slice a4 root.items.len c4]), (.agg #[.int .u8 (h.kind : Nat), .int .i64 h.pos, .string h.text, .bool h.root, .slice an h.names.length cn, .string h.name, .slice ak kd.len ck, .slice ae el.len ce])]) (w' := w1.drew) ho rfl ?_ SG.out ?_ ?_ (fun w'' h => by obtain ⟨_, _, _, _, _, h, -⟩ := h; cases h)
    · simp [execOp, Act.eval, go_sem, hvals, v8, v9]
    · rintro v w'' ⟨hb, b1, e1, b2, e2, hv, hvs, -⟩
      cases hv
      have h12 : listed.getD 12 false = false := by
       cases hx : listed.getD 12 false with
       | false => rfl
       | true => have := c11_10 (c12_11 hx); rw [hun] at this; cases this
      have h11 : listed.getD 11 false = false := by
       cases hx : listed.getD 11 false with
       | false => rfl
       | true => have := c11_10 hx; rw [hun] at this; cases this
      refine ⟨b1, e1, b2, e2, w'', (hI.to (vals' := (hvals h W.heap.size rb l (.agg #[.int .u8 (dot.h.kind : Nat), .bool dot.h.b, .int .i64 dot.h.n, .int .u64 (dot.h.bits : Nat), .string dot.h.text, .slice a1 dot.h.keys.length c1, .slice a2 dot.items.len c2, .int .u8 (root.h.kind : Nat), .bool root.h.b, .int .i64 root.h.n, .int .u64 (root.h.bits : Nat), .string root.h.text, .slice a3 root.h.keys.length c3, .slice a4 root.items.len c4]) (.agg #[.int .u8 (h.kind : Nat), .int .i64 h.pos, .string h.text, .bool h.root, .slice an h.names.length cn, .string h.name, .slice ak kd.len ck, .slice ae el.len ce]) x b1 e1 b2 e2)) ?_).put 10 (by omega) (by omega) (by omega) _ rfl, fun hl => by (rw [getD_set_same _ _ _ _ (by rw [hsz]; decide)] at hl; cases hl), fun _ => ⟨hb, hvs, fun _ => rfl, fun hm => by (rw [getD_set_other _ _ _ _ _ (by omega), h12] at hm; cases hm)⟩⟩
      intro j hj hl
      rcases (by omega : j = 0 ∨ j = 1 ∨ j = 2 ∨ j = 3 ∨ j = 4 ∨ j = 5 ∨ j = 6 ∨ j = 7 ∨ j = 8 ∨ j = 9 ∨ j = 10 ∨ j = 11 ∨ j = 12) with rfl | rfl | rfl | rfl | rfl | rfl | rfl | rfl | rfl | rfl | rfl | rfl | rfl
      all_goals first | rfl | (rw [hun] at hl; cases hl) | (rw [h11] at hl; cases hl)
    · rintro ch w'' ⟨-, b1, e1, b2, e2, hv, -⟩
      cases hv
  · obtain rfl := Option.some.inj ho
    have hx12 : listed.getD 12 false = false := by
     cases hx : listed.getD 12 false with
     | false => rfl
     | true => have := (c12_11 hx); rw [hun] at this; cases this
    have hbw : Below w1.heap.size w1.drew w := by
     cases hx : listed.getD 10 false with
     | false => rw [h0 hx]; exact Below.refl _ _
     | true => rw [(h1 hx).2.2.1 hx12]; exact (h1 hx).1
    have v6 : a.tmps[32]?.getD undef = (hvals h W.heap.size rb l (.agg #[.int .u8 (dot.h.kind : Nat), .bool dot.h.b, .int .i64 dot.h.n, .int .u64 (dot.h.bits : Nat), .string dot.h.text, .slice a1 dot.h.keys.length c1, .slice a2 dot.items.len c2, .int .u8 (root.h.kind : Nat), .bool root.h.b, .int .i64 root.h.n, .int .u64 (root.h.bits : Nat), .string root.h.text, .slice a3 root.h.keys.length c3, .slice a4 root.items.len c4]) (.agg #[.int .u8 (h.kind : Nat), .int .i64 h.pos, .string h.text, .bool h.root, .slice an h.names.length cn, .string h.name, .slice ak kd.len ck, .slice ae el.len ce]) x u1 u2 u3 u4) 6 := by have := hI.val 6 (by omega) (hdep ⟨6, .data⟩ (by simp) rfl); simpa using this
    have v10 : a.tmps[36]?.getD undef = (hvals h W.heap.size rb l (.agg #[.int .u8 (dot.h.kind : Nat), .bool dot.h.b, .int .i64 dot.h.n, .int .u64 (dot.h.bits : Nat), .string dot.h.text, .slice a1 dot.h.keys.length c1, .slice a2 dot.items.len c2, .int .u8 (root.h.kind : Nat), .bool root.h.b, .int .i64 root.h.n, .int .u64 (root.h.bits : Nat), .string root.h.text, .slice a3 root.h.keys.length c3, .slice a4 root.items.len c4]) (.agg #[.int .u8 (h.kind : Nat), .int .i64 h.pos, .string h.text, .bool h.root, .slice an h.names.length cn, .string h.name, .slice ak kd.len ck, .slice ae el.len ce]) x u1 u2 u3 u4) 10 := by have := hI.val 10 (by omega) (hdep ⟨10, .data⟩ (by simp) rfl); simpa using this
    refine opIn_value ho rfl (v := (hvals h W.heap.size rb l (.agg #[.int .u8 (dot.h.kind : Nat), .bool dot.h.b, .int .i64 dot.h.n, .int .u64 (dot.h.bits : Nat), .string dot.h.text, .slice a1 dot.h.keys.length c1, .slice a2 dot.items.len c2, .int .u8 (root.h.kind : Nat), .bool root.h.b, .int .i64 root.h.n, .int .u64 (root.h.bits : Nat), .string root.h.text, .slice a3 root.h.keys.length c3, .slice a4 root.items.len c4]) (.agg #[.int .u8 (h.kind : Nat), .int .i64 h.pos, .string h.text, .bool h.root, .slice an h.names.length cn, .string h.name, .slice ak kd.len ck, .slice ae el.len ce]) x u1 u2 u3 u4) 11) (w' := w) ?_ ⟨u1, u2, u3, u4, w2, hI.put 11 (by omega) (by omega) (by omega) _ rfl, fun hl => h0 (by rwa [getD_set_other _ _ _ _ _ (by omega)] at hl), fun hl => by (rw [getD_set_other _ _ _ _ _ (by omega)] at hl; obtain ⟨k1, k2, k3, k4⟩ := h1 hl; exact ⟨k1, k2, fun hm => k3 (by rwa [getD_set_other _ _ _ _ _ (by omega)] at hm), fun hm => k4 (by rwa [getD_set_other _ _ _ _ _ (by omega)] at hm)⟩)⟩
    simp [execOp, Act.eval, go_sem, hvals, v6, v10]
  · obtain rfl := Option.some.inj ho
    have hx10 := c11_10 (hdep ⟨11, .data⟩ (by simp) rfl)
    obtain ⟨k1, k2, k3, k4⟩ := h1 hx10
    obtain rfl := k3 hun
    have v4 : a.tmps[30]?.getD undef = (hvals h W.heap.size rb l (.agg #[.int .u8 (dot.h.kind : Nat), .bool dot.h.b, .int .i64 dot.h.n, .int .u64 (dot.h.bits : Nat), .string dot.h.text, .slice a1 dot.h.keys.length c1, .slice a2 dot.items.len c2, .int .u8 (root.h.kind : Nat), .bool root.h.b, .int .i64 root.h.n, .int .u64 (root.h.bits : Nat), .string root.h.text, .slice a3 root.h.keys.length c3, .slice a4 root.items.len c4]) (.agg #[.int .u8 (h.kind : Nat), .int .i64 h.pos, .string h.text, .bool h.root, .slice an h.names.length cn, .string h.name, .slice ak kd.len ck, .slice ae el.len ce]) x u1 u2 u3 u4) 4 := by have := hI.val 4 (by omega) (hdep ⟨4, .data⟩ (by simp) rfl); simpa using this
    have v11 : a.tmps[37]?.getD undef = (hvals h W.heap.size rb l (.agg #[.int .u8 (dot.h.kind : Nat), .bool dot.h.b, .int .i64 dot.h.n, .int .u64 (dot.h.bits : Nat), .string dot.h.text, .slice a1 dot.h.keys.length c1, .slice a2 dot.items.len c2, .int .u8 (root.h.kind : Nat), .bool root.h.b, .int .i64 root.h.n, .int .u64 (root.h.bits : Nat), .string root.h.text, .slice a3 root.h.keys.length c3, .slice a4 root.items.len c4]) (.agg #[.int .u8 (h.kind : Nat), .int .i64 h.pos, .string h.text, .bool h.root, .slice an h.names.length cn, .string h.name, .slice ak kd.len ck, .slice ae el.len ce]) x u1 u2 u3 u4) 11 := by have := hI.val 11 (by omega) (hdep ⟨11, .data⟩ (by simp) rfl); simpa using this
    have hJd := HJJ.out _ _ _ _ HJ1.out ((off_refl S w1).trans (off_below HRUN1.out.lt k1))
    have hc := HYY.out S pre ⟨⟨h.pos, true, x, .empty⟩, u1, u2, u3, u4, Nu w1.heap.size w⟩ w hJd (by omega) ⟨fun b hb => ⟨fun hs => by have := HRUN1.out.lt b hs; have := hb.1; omega, hb.2.1⟩, k2, fun b hb => hb.2.2, HXS.out, fun b hb => by have := HRUN1.out.mbok.1; have := hb.1; omega⟩
    refine opIn_yield (l := l) (args := encP ⟨⟨h.pos, true, x, .empty⟩, u1, u2, u3, u4, Nu w1.heap.size w⟩) (w' := w) ho rfl ?_ hc ?_ (fun ch w'' h => by cases h.1) (fun w'' h => by cases h.1)
    · simp [execOp, Act.eval, go_sem, hvals, v4, v11, encP]
      rfl
    · rintro v w'' ⟨hv, S', hJ', ht⟩
      cases hv
      exact ⟨u1, u2, u3, u4, w, hI.put 12 (by omega) (by omega) (by omega) _ rfl, fun hl => by (rw [getD_set_other _ _ _ _ _ (by omega), hx10] at hl; cases hl), fun _ => ⟨k1, k2, fun hl => by (rw [getD_set_same _ _ _ _ (by rw [hsz]; decide)] at hl; cases hl), fun _ => ⟨S', hJ', ht⟩⟩⟩
  · obtain rfl := Option.some.inj ho
    have v12 : a.tmps[38]?.getD undef = (hvals h W.heap.size rb l (.agg #[.int .u8 (dot.h.kind : Nat), .bool dot.h.b, .int .i64 dot.h.n, .int .u64 (dot.h.bits : Nat), .string dot.h.text, .slice a1 dot.h.keys.length c1, .slice a2 dot.items.len c2, .int .u8 (root.h.kind : Nat), .bool root.h.b, .int .i64 root.h.n, .int .u64 (root.h.bits : Nat), .string root.h.text, .slice a3 root.h.keys.length c3, .slice a4 root.items.len c4]) (.agg #[.int .u8 (h.kind : Nat), .int .i64 h.pos, .string h.text, .bool h.root, .slice an h.names.length cn, .string h.name, .slice ak kd.len ck, .slice ae el.len ce]) x u1 u2 u3 u4) 12 := by have := hI.val 12 (by omega) (hdep ⟨12, .data⟩ (by simp) rfl); simpa using this
    refine opIn_value ho rfl (v := .bool true) (w' := w) ?_ ⟨u1, u2, u3, u4, w2, hI.putRes (by omega) (by omega), fun hl => h0 (by rwa [getD_set_other _ _ _ _ _ (by omega)] at hl), fun hl => by (rw [getD_set_other _ _ _ _ _ (by omega)] at hl; obtain ⟨k1, k2, k3, k4⟩ := h1 hl; exact ⟨k1, k2, fun hm => k3 (by rwa [getD_set_other _ _ _ _ _ (by omega)] at hm), fun hm => k4 (by rwa [getD_set_other _ _ _ _ _ (by omega)] at hm)⟩)⟩
    simp [execOp, Act.eval, go_sem, hvals, v12]
theorem run_eql_float {P : Program} (w : World) {t : TypeId} (a b : Nat) (ht : P.underlying t = some (.float .f64)) : (binOp .eql t (.float .f64 a) (.float .f64 b)).run P w = .ok (.bool (Op.floatEq .f64 a b)) w := by
 simp [binOp, Op.floatCmp, Op.floatEq]
theorem run_neq_float {P : Program} (w : World) {t : TypeId} (a b : Nat) (ht : P.underlying t = some (.float .f64)) : (binOp .neq t (.float .f64 a) (.float .f64 b)).run P w = .ok (.bool (!Op.floatEq .f64 a b)) w := by
 simp [binOp, Op.floatCmp, Op.floatEq, bne]
theorem frombits_run (n : Nat) (w : World) : (Extern.MathFloatBits.float64frombits #[.int .u64 (n : Nat)]).run Tryz.prog w = .ok (.float .f64 n) w := rfl
set_option maxRecDepth 100000 in
set_option maxHeartbeats 40000000 in
theorem true_calls (x : Va) (ok : Nat → Prop) (a1 a2 : Option Addr) (c1 c2 : Nat) (w : World) :
 Calls Tryz.prog 131 #[.agg #[.int .u8 (x.h.kind : Nat), .bool x.h.b, .int .i64 x.h.n, .int .u64 (x.h.bits : Nat), .string x.h.text, .slice a1 x.h.keys.length c1, .slice a2 x.items.len c2]] w fun e w' => e = .returned (.bool (trueF x)) ∧ Below w.heap.size w w' := by
 obtain ⟨⟨kind, b, n, bits, text, keys⟩, its⟩ := x
 dsimp only
 have HB : Hid (Below w.heap.size w (w.alloc (.cells #[.int .u8 (kind : Nat), .bool b, .int .i64 n, .int .u64 (bits : Nat), .string text, .slice a1 keys.length c1, .slice a2 its.len c2] 31))) := (Below.refl _ w).alloc (Nat.le_refl _) _
 have h152 := @run_callFunc_extern Tryz.prog 152 _ Extern.MathFloatBits.float64frombits Tryz.func152 (by kernel_rfl) (by kernel_rfl) (by kernel_rfl) (by kernel_rfl)
 have cF : ∀ (k : Nat) (w : World), (callFunc 152 #[.int .u64 (k : Nat)]).run Tryz.prog w = .ok (.value (.float .f64 k)) w := fun k w => (h152 _ w).trans (by rw [frombits_run]; rfl)
 have eF : ∀ (w : World) (a b : Nat), (binOp .eql 206 (.float .f64 a) (.float .f64 b)).run Tryz.prog w = .ok (.bool (Op.floatEq .f64 a b)) w := fun w a b => run_eql_float w a b Tryz.underlying206
 have nF : ∀ (w : World) (a b : Nat), (binOp .neq 206 (.float .f64 a) (.float .f64 b)).run Tryz.prog w = .ok (.bool (!Op.floatEq .f64 a b)) w := fun w a b => run_neq_float w a b Tryz.underlying206
 clear h152
 by_cases k2 : kind = 2
 · subst k2
   go_enter Tryz.func131, Tryz.ntmps131
   go_wp2_with fail
   go_ret
   exact ⟨rfl, HB.out⟩
 by_cases k3 : kind = 3
 · subst k3
   go_enter Tryz.func131, Tryz.ntmps131
   go_wp2_with fail
   go_ret
   refine ⟨?_, HB.out⟩
   show Ending.returned (.bool (n != 0)) = _
   congr 2
   show (n != 0) = trueF ⟨⟨3, b, n, bits, text, keys⟩, its⟩
   simp only [trueF]
   by_cases h0 : n = 0
   · subst h0; rfl
   · simp [h0]
 by_cases k4 : kind = 4
 · subst k4
   have f1 := float_zero bits
   have f2 := float_self bits
   have HT : Hid (trueF ⟨⟨4, b, n, bits, text, keys⟩, its⟩ = (!decide (bits % 9223372036854775808 = 0) && decide (bits % 9223372036854775808 ≤ 9218868437227405312))) := by
    unfold Hid
    simp [trueF]
   rw [HT.out]
   generalize hd1 : decide (bits % 9223372036854775808 = 0) = d1 at *
   generalize hd2 : decide (bits % 9223372036854775808 ≤ 9218868437227405312) = d2 at *
   clear hd1 hd2 HT
   have f3 : (FloatKind.f64.format.order bits bits == some Ordering.eq) = d2 := f2
   go_enter Tryz.func131, Tryz.ntmps131
   cases d1 with
   | true =>
     have f4 : (FloatKind.f64.format.order bits 0 == some Ordering.eq) = true := f1
     have f5 : (FloatKind.f64.format.order bits 0 != some Ordering.eq) = false := by simp only [bne, f4]; rfl
     clear f1 f2
     go_wp2_with fail
     go_ret
     exact ⟨rfl, HB.out⟩
   | false =>
     have f4 : (FloatKind.f64.format.order bits 0 == some Ordering.eq) = false := f1
     have f5 : (FloatKind.f64.format.order bits 0 != some Ordering.eq) = true := by simp only [bne, f4]; rfl
     clear f1 f2
     go_wp2_with fail
     go_ret
     exact ⟨rfl, HB.out⟩
 by_cases k5 : kind = 5
 · subst k5
   have HT : Hid (trueF ⟨⟨5, b, n, bits, text, keys⟩, its⟩ = decide (text.size ≠ 0)) := by unfold Hid; simp [trueF]
   rw [HT.out]
   go_enter Tryz.func131, Tryz.ntmps131
   go_wp2_with fail
   go_ret
   refine ⟨?_, HB.out⟩
   show Ending.returned (.bool !text.toList.isEmpty) = _
   congr 2
   by_cases h0 : text.size = 0
   · rw [show text.toList.isEmpty = true by rw [size0 text h0, ByteArray.toList_eq]; rfl]; simp [h0]
   · rw [ne_str text (by omega)]; simp [h0]
 by_cases k67 : kind = 6 ∨ kind = 7
 · have HT : Hid (trueF ⟨⟨kind, b, n, bits, text, keys⟩, its⟩ = decide (its.len ≠ 0)) := by
    unfold Hid
    simp [trueF, k2, k3, k4, k5, k67]
   rw [HT.out]
   clear HT
   rcases k67 with rfl | rfl
   all_goals
    go_enter Tryz.func131, Tryz.ntmps131
    go_wp2_with fail
    go_ret
    refine ⟨?_, HB.out⟩
    show Ending.returned (.bool (decide (0 < its.len))) = _
    congr 2
    simp [Nat.pos_iff_ne_zero]
 · have HT : Hid (trueF ⟨⟨kind, b, n, bits, text, keys⟩, its⟩ = false) := by
    unfold Hid
    simp [trueF, k2, k3, k4, k5, k67]
   rw [HT.out]
   have e2 : ((kind : Int) == 2) = false := beq_eq_false_iff_ne.2 (by omega)
   have e3 : ((kind : Int) == 3) = false := beq_eq_false_iff_ne.2 (by omega)
   have e4 : ((kind : Int) == 4) = false := beq_eq_false_iff_ne.2 (by omega)
   have e5 : ((kind : Int) == 5) = false := beq_eq_false_iff_ne.2 (by omega)
   have e6 : ((kind : Int) == 6) = false := beq_eq_false_iff_ne.2 (by omega)
   have e7 : ((kind : Int) == 7) = false := beq_eq_false_iff_ne.2 (by omega)
   have g2 : ¬ (kind : Int) = 2 := by omega
   have g3 : ¬ (kind : Int) = 3 := by omega
   have g4 : ¬ (kind : Int) = 4 := by omega
   have g5 : ¬ (kind : Int) = 5 := by omega
   have g6 : ¬ (kind : Int) = 6 := by omega
   have g7 : ¬ (kind : Int) = 7 := by omega
   clear HT k2 k3 k4 k5 k67
   go_enter Tryz.func131, Tryz.ntmps131
   go_wp2_with fail
   go_ret
   exact ⟨rfl, HB.out⟩
def ifF (D : ByteArray → Pt) (C n : Nat) (dot root : Va) (deep : Nat) (h : Hd) (kd el : Pt) (f : Nat) : Ev.Rs := match getF h.names (if h.root then root else dot) with | .error y => (⟨[], f, some (y, h.pos)⟩ : Ev.Rs) | .ok v => listF (evF D C n dot root deep) (if trueF v then kd else el) f
set_option maxRecDepth 100000 in
set_option maxHeartbeats 40000000 in
theorem part_if (D : ByteArray → Pt) (C l rb mb : Nat) (J : (Nat → Prop) → List It → World → Prop) (HJ : Lies J) (n : Nat) (hp : PartsSaid D C l rb mb J n) (dot root : Va) (h : Hd) (kd el : Pt) (deep f : Nat) (S : Nat → Prop) (pre : List It) (W : World) (a1 a2 a3 a4 an ak ae : Option Addr) (c1 c2 c3 c4 cn ck ce : Nat) (hfn : f ≤ n) (hcap : pre.length + (f + 1) ≤ 1000000) (hdc : deep ≤ C) (hsh : h.sm) (hsk : kd.sm) (hse : el.sm) (hck : kd.cnt ≤ 16777216) (hce : el.cnt ≤ 16777216) (hrun : RunA D C l rb mb S (f + 1) W) (hJ : J S pre W) (hok : Okd S rb W dot root a1 a2 a3 a4 c1 c2 c3 c4) (hst : Strs (okS S rb W) W (.slice an h.names.length cn) h.names) (hk : Parts (okS S rb W) W (.slice ak kd.len ck) kd) (he : Parts (okS S rb W) W (.slice ae el.len ce) el) (hk0 : h.kind = 3) :
 Calls Tryz.prog 91 #[.agg #[.int .u8 (dot.h.kind : Nat), .bool dot.h.b, .int .i64 dot.h.n, .int .u64 (dot.h.bits : Nat), .string dot.h.text, .slice a1 dot.h.keys.length c1, .slice a2 dot.items.len c2, .int .u8 (root.h.kind : Nat), .bool root.h.b, .int .i64 root.h.n, .int .u64 (root.h.bits : Nat), .string root.h.text, .slice a3 root.h.keys.length c3, .slice a4 root.items.len c4, .int .i64 (deep : Nat), .pointer (some ⟨rb, 0, none⟩)], .agg #[.int .u8 (h.kind : Nat), .int .i64 h.pos, .string h.text, .bool h.root, .slice an h.names.length cn, .string h.name, .slice ak kd.len ck, .slice ae el.len ce]] W (EvP C l rb mb J (ifF D C n dot root deep h kd el f) S pre W) := by
 have HP := Lib.hid hp
 clear hp
 have j1 : ((h.kind : Int) == 1) = false := by rw [hk0]; rfl
 have j2 : ((h.kind : Int) == 2) = false := by rw [hk0]; rfl
 have j3 : ((h.kind : Int) == 3) = true := by rw [hk0]; rfl
 have j4 : ((h.kind : Int) == 4) = false := by rw [hk0]; rfl
 clear hk0
 have HB0 : Hid (Below W.heap.size W ((W.alloc (.cells #[.int .u8 (dot.h.kind : Nat), .bool dot.h.b, .int .i64 dot.h.n, .int .u64 (dot.h.bits : Nat), .string dot.h.text, .slice a1 dot.h.keys.length c1, .slice a2 dot.items.len c2, .int .u8 (root.h.kind : Nat), .bool root.h.b, .int .i64 root.h.n, .int .u64 (root.h.bits : Nat), .string root.h.text, .slice a3 root.h.keys.length c3, .slice a4 root.items.len c4, .int .i64 (deep : Nat), .pointer (some ⟨rb, 0, none⟩)] 120)).alloc (.cells #[.int .u8 (h.kind : Nat), .int .i64 h.pos, .string h.text, .bool h.root, .slice an h.names.length cn, .string h.name, .slice ak kd.len ck, .slice ae el.len ce] 56))) := (((Below.refl _ W).alloc (Nat.le_refl _) _).alloc (by simp) _)
 have HS0 : Hid (((W.alloc (.cells #[.int .u8 (dot.h.kind : Nat), .bool dot.h.b, .int .i64 dot.h.n, .int .u64 (dot.h.bits : Nat), .string dot.h.text, .slice a1 dot.h.keys.length c1, .slice a2 dot.items.len c2, .int .u8 (root.h.kind : Nat), .bool root.h.b, .int .i64 root.h.n, .int .u64 (root.h.bits : Nat), .string root.h.text, .slice a3 root.h.keys.length c3, .slice a4 root.items.len c4, .int .i64 (deep : Nat), .pointer (some ⟨rb, 0, none⟩)] 120)).alloc (.cells #[.int .u8 (h.kind : Nat), .int .i64 h.pos, .string h.text, .bool h.root, .slice an h.names.length cn, .string h.name, .slice ak kd.len ck, .slice ae el.len ce] 56)).heap.size = W.heap.size + 2) := by unfold Hid; simp
 have HT : Hid (∀ W0, ((W.alloc (.cells #[.int .u8 (dot.h.kind : Nat), .bool dot.h.b, .int .i64 dot.h.n, .int .u64 (dot.h.bits : Nat), .string dot.h.text, .slice a1 dot.h.keys.length c1, .slice a2 dot.items.len c2, .int .u8 (root.h.kind : Nat), .bool root.h.b, .int .i64 root.h.n, .int .u64 (root.h.bits : Nat), .string root.h.text, .slice a3 root.h.keys.length c3, .slice a4 root.items.len c4, .int .i64 (deep : Nat), .pointer (some ⟨rb, 0, none⟩)] 120)).alloc (.cells #[.int .u8 (h.kind : Nat), .int .i64 h.pos, .string h.text, .bool h.root, .slice an h.names.length cn, .string h.name, .slice ak kd.len ck, .slice ae el.len ce] 56)) = W0 → W0.heap[W.heap.size]? = some (.cells #[.int .u8 (dot.h.kind : Nat), .bool dot.h.b, .int .i64 dot.h.n, .int .u64 (dot.h.bits : Nat), .string dot.h.text, .slice a1 dot.h.keys.length c1, .slice a2 dot.items.len c2, .int .u8 (root.h.kind : Nat), .bool root.h.b, .int .i64 root.h.n, .int .u64 (root.h.bits : Nat), .string root.h.text, .slice a3 root.h.keys.length c3, .slice a4 root.items.len c4, .int .i64 (deep : Nat), .pointer (some ⟨rb, 0, none⟩)] 120 (0, 0)) ∧ W0.heap[W.heap.size + 1]? = some (.cells #[.int .u8 (h.kind : Nat), .int .i64 h.pos, .string h.text, .bool h.root, .slice an h.names.length cn, .string h.name, .slice ak kd.len ck, .slice ae el.len ce] 56 (0, 0))) := by
  rintro W0 rfl
  have s1 : (W.alloc (.cells #[.int .u8 (dot.h.kind : Nat), .bool dot.h.b, .int .i64 dot.h.n, .int .u64 (dot.h.bits : Nat), .string dot.h.text, .slice a1 dot.h.keys.length c1, .slice a2 dot.items.len c2, .int .u8 (root.h.kind : Nat), .bool root.h.b, .int .i64 root.h.n, .int .u64 (root.h.bits : Nat), .string root.h.text, .slice a3 root.h.keys.length c3, .slice a4 root.items.len c4, .int .i64 (deep : Nat), .pointer (some ⟨rb, 0, none⟩)] 120 (0, 0))).heap.size = W.heap.size + 1 := by simp
  refine ⟨?_, ?_⟩
  · rw [Below.heap_alloc _ _ _ (by omega)]
    exact heap_alloc_new W _
  · skip
    have := heap_alloc_new (W.alloc (.cells #[.int .u8 (dot.h.kind : Nat), .bool dot.h.b, .int .i64 dot.h.n, .int .u64 (dot.h.bits : Nat), .string dot.h.text, .slice a1 dot.h.keys.length c1, .slice a2 dot.items.len c2, .int .u8 (root.h.kind : Nat), .bool root.h.b, .int .i64 root.h.n, .int .u64 (root.h.bits : Nat), .string root.h.text, .slice a3 root.h.keys.length c3, .slice a4 root.items.len c4, .int .i64 (deep : Nat), .pointer (some ⟨rb, 0, none⟩)] 120 (0, 0))) (.cells #[.int .u8 (h.kind : Nat), .int .i64 h.pos, .string h.text, .bool h.root, .slice an h.names.length cn, .string h.name, .slice ak kd.len ck, .slice ae el.len ce] 56 (0, 0)); rwa [s1] at this
 have hst0 := hrun.stp HB0.out
 have HST0 := Lib.hid hst0
 have HRUN0 := Lib.hid (hrun.below HB0.out)
 have HJ0 := Lib.hid (HJ _ _ _ _ hJ (off_below hrun.lt HB0.out))
 have HJJ := Lib.hid HJ
 have HRUNW := Lib.hid hrun
 have HOKW := Lib.hid hok
 have HSTW := Lib.hid hst
 have HKDW := Lib.hid hk
 have HELW := Lib.hid he
 have HSH := Lib.hid hsh
 clear hst0 hrun hJ hok hst hk he HJ hsh
 go_enter Tryz.func91, Tryz.ntmps91
 go_upto_region 1 with (fail)
 try simp only [Nat.add_assoc, Nat.reduceAdd]
 generalize hWW : World.alloc (World.alloc W _) _ = W0 at *
 obtain ⟨hr0, hp0⟩ := HT.out W0 rfl
 clear hWW HT
 have hz0 : W0.heap.size = W.heap.size + 2 := HS0.out
 have HR0 := Lib.hid hr0
 have HP0 := Lib.hid hp0
 have BC : Hid (Calls Tryz.prog 129 #[.agg #[.int .u8 (dot.h.kind : Nat), .bool dot.h.b, .int .i64 dot.h.n, .int .u64 (dot.h.bits : Nat), .string dot.h.text, .slice a1 dot.h.keys.length c1, .slice a2 dot.items.len c2, .int .u8 (root.h.kind : Nat), .bool root.h.b, .int .i64 root.h.n, .int .u64 (root.h.bits : Nat), .string root.h.text, .slice a3 root.h.keys.length c3, .slice a4 root.items.len c4, .int .i64 (deep : Nat), .pointer (some ⟨rb, 0, none⟩)], .agg #[.int .u8 (h.kind : Nat), .int .i64 h.pos, .string h.text, .bool h.root, .slice an h.names.length cn, .string h.name, .slice ak kd.len ck, .slice ae el.len ce]] W0 (BuP mb C l rb h.pos W0 (f + 1))) :=
  burn_calls dot root h deep rb mb C l (f + 1) HRUN0.out.fl a1 a2 a3 a4 an ak ae c1 c2 c3 c4 cn kd.len ck el.len ce W0 HRUN0.out.rest
 obtain ⟨q0, q1, q2, q3, q4, q5, q6, q7, q8, q9, q10, q11, q12, q13, q14, q15⟩ := runCs (P := W.heap.size) (dot := dot) (root := root) (a1 := a1) (a2 := a2) (a3 := a3) (a4 := a4) (c1 := c1) (c2 := c2) (c3 := c3) (c4 := c4) (deep := deep) (rb := rb) hr0
 obtain ⟨p0, p1, p2, p3, p4, p5, p6, p7⟩ := pcCs (P := W.heap.size + 1) (h := h) hp0
 clear hr0 hp0
 go_wp2_with fail
 refine BC.out.mono ?_
 rintro e w1 ⟨rfl, hre1, hoff1⟩
 have hw1 := hoff1.size
 have HST1 := Lib.hid (HST0.out.trans (stp_burn HRUN0.out.lt hoff1))
 have HRUN1 : Hid (RunA D C l rb mb S f w1) := HRUN0.out.step (stp_burn HRUN0.out.lt hoff1) hre1 (Nat.le_succ f)
 have HJ1 := Lib.hid (HJJ.out _ _ _ _ HJ0.out (hoff1.mono fun b hb => ⟨HRUN0.out.lt b hb, fun e => HRUN0.out.rbS (by rw [← e]; exact hb)⟩))
 have hrl := lt_of_block HRUNW.out.rest
 have HR1 : Hid (w1.heap[W.heap.size]? = some (.cells (runCells dot root a1 a2 a3 a4 c1 c2 c3 c4 deep rb) 120 (0, 0))) := (hoff1.block _ ⟨by omega, by omega⟩).trans HR0.out
 have HP1 : Hid (w1.heap[W.heap.size + 1]? = some (.cells (pCells h (.slice an h.names.length cn) (.slice ak kd.len ck) (.slice ae el.len ce)) 56 (0, 0))) := (hoff1.block _ ⟨by omega, by omega⟩).trans HP0.out
 have HRX : Hid (okS S rb w1 W.heap.size) := HRUNW.out.new (Nat.le_refl _) (by omega)
 have HPX : Hid (okS S rb w1 (W.heap.size + 1)) := HRUNW.out.new (by omega) (by omega)
 have hz1 : W.heap.size + 2 ≤ w1.heap.size := by omega
 clear hre1 hoff1 BC q0 q1 q2 q3 q4 q5 q6 q7 q8 q9 q10 q11 q12 q13 q14 q15 p0 p1 p2 p3 p4 p5 p6 p7
 obtain ⟨p0, p1, p2, p3, p4, p5, p6, p7⟩ := pcCs HP1.out
 go_upto_region 8 with (fail)
 obtain ⟨q0, q1, q2, q3, q4, q5, q6, q7, q8, q9, q10, q11, q12, q13, q14, q15⟩ := runCs HR1.out
 have hsl : h.names.length ≤ 140737488351232 := by have := HSH.out.2.2.2.1; omega
 have HOK1 := Lib.hid (HOKW.out.step HST1.out)
 have SG : Hid (Calls Tryz.prog 130 #[(.agg #[.int .u8 (dot.h.kind : Nat), .bool dot.h.b, .int .i64 dot.h.n, .int .u64 (dot.h.bits : Nat), .string dot.h.text, .slice a1 dot.h.keys.length c1, .slice a2 dot.items.len c2, .int .u8 (root.h.kind : Nat), .bool root.h.b, .int .i64 root.h.n, .int .u64 (root.h.bits : Nat), .string root.h.text, .slice a3 root.h.keys.length c3, .slice a4 root.items.len c4]), (.agg #[.int .u8 (h.kind : Nat), .int .i64 h.pos, .string h.text, .bool h.root, .slice an h.names.length cn, .string h.name, .slice ak kd.len ck, .slice ae el.len ce])] w1 (SgP (getF h.names (if h.root then root else dot)) h.pos w1)) :=
  sget_calls dot root h HOK1.out.dsm HOK1.out.rsm hsl _ a1 a2 a3 a4 an ak ae c1 c2 c3 c4 cn kd.len ck el.len ce w1 HOK1.out.dot HOK1.out.root (HST1.out.strs HSTW.out)
 go_wp2_with fail
 refine SG.out.mono ?_
 rintro e w2 ⟨hb2, hres⟩
 obtain ⟨G, hG⟩ : ∃ G, getF h.names (if h.root then root else dot) = G := ⟨_, rfl⟩
 have HG := Lib.hid hG
 rw [hG] at hres
 clear hG
 have HB2 := Lib.hid hb2
 have hz2 : W.heap.size + 2 ≤ w2.heap.size := by have := hb2.size; omega
 have HST2 := Lib.hid (HST1.out.trans (HRUN1.out.stp hb2))
 have HRUN2 := Lib.hid (HRUN1.out.below hb2)
 have HJ2 := Lib.hid (HJJ.out _ _ _ _ HJ1.out (off_below HRUN1.out.lt hb2))
 have HR2 : Hid (w2.heap[W.heap.size]? = some (.cells (runCells dot root a1 a2 a3 a4 c1 c2 c3 c4 deep rb) 120 (0, 0))) := (hb2.block _ HRX.out.1).trans HR1.out
 have HP2 : Hid (w2.heap[W.heap.size + 1]? = some (.cells (pCells h (.slice an h.names.length cn) (.slice ak kd.len ck) (.slice ae el.len ce)) 56 (0, 0))) := (hb2.block _ HPX.out.1).trans HP1.out
 clear hb2 SG q0 q1 q2 q3 q4 q5 q6 q7 q8 q9 q10 q11 q12 q13 q14 q15 p0 p1 p2 p3 p4 p5 p6 p7
 cases G with
 | error y =>
   obtain rfl := hres
   have HEQ : Hid ((ifF D C n dot root deep h kd el f) = ⟨[], f, some (y, h.pos)⟩) := by unfold Hid ifF; rw [HG.out]
   go_wp2_with fail
   rw [HEQ.out]
   exact ⟨rfl, S, [], by rw [List.append_nil]; exact HJ2.out, rfl, HST2.out, rfl⟩
 | ok x =>
   obtain ⟨b1, d1, b2, d2, rfl, hvs, hsx⟩ := hres
   have TC := Lib.hid (true_calls x (fun _ => True) b1 b2 d1 d2 w2)
   clear hvs hsx
   go_wp2_with fail
   refine TC.out.mono ?_
   rintro e w3 ⟨rfl, hb3⟩
   have HST3 := Lib.hid (HST2.out.trans (HRUN2.out.stp hb3))
   have HRUN3 := Lib.hid (HRUN2.out.below hb3)
   have HJ3 := Lib.hid (HJJ.out _ _ _ _ HJ2.out (off_below HRUN2.out.lt hb3))
   have HR3 := Lib.hid ((hb3.block _ (by omega)).trans HR2.out)
   have HP3 := Lib.hid ((hb3.block _ (by omega)).trans HP2.out)
   clear hb3 TC
   obtain ⟨q0, q1, q2, q3, q4, q5, q6, q7, q8, q9, q10, q11, q12, q13, q14, q15⟩ := runCs HR3.out
   obtain ⟨p0, p1, p2, p3, p4, p5, p6, p7⟩ := pcCs HP3.out
   obtain ⟨tf, htf⟩ : ∃ tf, trueF x = tf := ⟨_, rfl⟩
   have HTF := Lib.hid htf
   rw [HTF.out]
   clear htf
   cases tf with
   | true =>
     have PC : Hid (Calls Tryz.prog 52 #[.agg #[.int .u8 (dot.h.kind : Nat), .bool dot.h.b, .int .i64 dot.h.n, .int .u64 (dot.h.bits : Nat), .string dot.h.text, .slice a1 dot.h.keys.length c1, .slice a2 dot.items.len c2, .int .u8 (root.h.kind : Nat), .bool root.h.b, .int .i64 root.h.n, .int .u64 (root.h.bits : Nat), .string root.h.text, .slice a3 root.h.keys.length c3, .slice a4 root.items.len c4, .int .i64 (deep : Nat), .pointer (some ⟨rb, 0, none⟩)], .slice ak kd.len ck] w3 (EvP C l rb mb J (listF (evF D C n dot root deep) kd f) S pre w3)) :=
      HP.out dot root kd deep f S pre w3 a1 a2 a3 a4 ak c1 c2 c3 c4 ck hfn (by omega) hdc hsk hck HRUN3.out HJ3.out (HOKW.out.step HST3.out) (HST3.out.parts HKDW.out)
     have HEQ : Hid ((ifF D C n dot root deep h kd el f) = listF (evF D C n dot root deep) kd f) := by
      unfold Hid ifF; rw [HG.out]; dsimp only; rw [HTF.out]; rfl
     go_wp2_with fail
     refine PC.out.mono ?_
     rintro e w4 hev
     have hev2 := EvP.of_stp0 HST3.out hev
     rw [← HEQ.out] at hev2
     have HEV := Lib.hid hev2
     obtain ⟨S3, ys, -, -, -, hend⟩ := hev
     clear hev2 PC
     generalize hq : (listF (evF D C n dot root deep) kd f).err = q at *
     cases q with
     | none =>
       obtain ⟨rfl, -⟩ := hend
       go_wp2_with fail
       go_ret
       exact HEV.out
     | some q =>
       obtain ⟨qn, qp⟩ := q
       obtain rfl := hend
       go_wp2_with fail
       exact ⟨rfl, HEV.out⟩
   | false =>
     have PC : Hid (Calls Tryz.prog 52 #[.agg #[.int .u8 (dot.h.kind : Nat), .bool dot.h.b, .int .i64 dot.h.n, .int .u64 (dot.h.bits : Nat), .string dot.h.text, .slice a1 dot.h.keys.length c1, .slice a2 dot.items.len c2, .int .u8 (root.h.kind : Nat), .bool root.h.b, .int .i64 root.h.n, .int .u64 (root.h.bits : Nat), .string root.h.text, .slice a3 root.h.keys.length c3, .slice a4 root.items.len c4, .int .i64 (deep : Nat), .pointer (some ⟨rb, 0, none⟩)], .slice ae el.len ce] w3 (EvP C l rb mb J (listF (evF D C n dot root deep) el f) S pre w3)) :=
      HP.out dot root el deep f S pre w3 a1 a2 a3 a4 ae c1 c2 c3 c4 ce hfn (by omega) hdc hse hce HRUN3.out HJ3.out (HOKW.out.step HST3.out) (HST3.out.parts HELW.out)
     have HEQ : Hid ((ifF D C n dot root deep h kd el f) = listF (evF D C n dot root deep) el f) := by
      unfold Hid ifF; rw [HG.out]; dsimp only; rw [HTF.out]; rfl
     go_wp2_with fail
     refine PC.out.mono ?_
     rintro e w4 hev
     have hev2 := EvP.of_stp0 HST3.out hev
     rw [← HEQ.out] at hev2
     have HEV := Lib.hid hev2
     obtain ⟨S3, ys, -, -, -, hend⟩ := hev
     clear hev2 PC
     generalize hq : (listF (evF D C n dot root deep) el f).err = q at *
     cases q with
     | none =>
       obtain ⟨rfl, -⟩ := hend
       go_wp2_with fail
       go_ret
       exact HEV.out
     | some q =>
       obtain ⟨qn, qp⟩ := q
       obtain rfl := hend
       go_wp2_with fail
       exact ⟨rfl, HEV.out⟩
set_option maxRecDepth 100000 in
set_option maxHeartbeats 40000000 in
theorem part_range (D : ByteArray → Pt) (C l rb mb : Nat) (J : (Nat → Prop) → List It → World → Prop) (HJ : Lies J) (n : Nat) (hp : PartsSaid D C l rb mb J n) (dot root : Va) (h : Hd) (kd el : Pt) (deep f : Nat) (S : Nat → Prop) (pre : List It) (W : World) (a1 a2 a3 a4 an ak ae : Option Addr) (c1 c2 c3 c4 cn ck ce : Nat) (hfn : f ≤ n) (hcap : pre.length + (f + 1) ≤ 1000000) (hdc : deep ≤ C) (hsh : h.sm) (hsk : kd.sm) (hse : el.sm) (hck : kd.cnt ≤ 16777216) (hce : el.cnt ≤ 16777216) (hrun : RunA D C l rb mb S (f + 1) W) (hJ : J S pre W) (hok : Okd S rb W dot root a1 a2 a3 a4 c1 c2 c3 c4) (hst : Strs (okS S rb W) W (.slice an h.names.length cn) h.names) (hk : Parts (okS S rb W) W (.slice ak kd.len ck) kd) (he : Parts (okS S rb W) W (.slice ae el.len ce) el) (hk0 : h.kind = 4) :
 Calls Tryz.prog 91 #[.agg #[.int .u8 (dot.h.kind : Nat), .bool dot.h.b, .int .i64 dot.h.n, .int .u64 (dot.h.bits : Nat), .string dot.h.text, .slice a1 dot.h.keys.length c1, .slice a2 dot.items.len c2, .int .u8 (root.h.kind : Nat), .bool root.h.b, .int .i64 root.h.n, .int .u64 (root.h.bits : Nat), .string root.h.text, .slice a3 root.h.keys.length c3, .slice a4 root.items.len c4, .int .i64 (deep : Nat), .pointer (some ⟨rb, 0, none⟩)], .agg #[.int .u8 (h.kind : Nat), .int .i64 h.pos, .string h.text, .bool h.root, .slice an h.names.length cn, .string h.name, .slice ak kd.len ck, .slice ae el.len ce]] W (EvP C l rb mb J (eachF D C n dot root deep h kd el f) S pre W) := by
 have HP := Lib.hid hp
 have HSHP := Lib.hid hsh
 clear hp
 have j1 : ((h.kind : Int) == 1) = false := by rw [hk0]; rfl
 have j2 : ((h.kind : Int) == 2) = false := by rw [hk0]; rfl
 have j3 : ((h.kind : Int) == 3) = false := by rw [hk0]; rfl
 have j4 : ((h.kind : Int) == 4) = true := by rw [hk0]; rfl
 clear hk0
 have HB0 : Hid (Below W.heap.size W ((W.alloc (.cells #[.int .u8 (dot.h.kind : Nat), .bool dot.h.b, .int .i64 dot.h.n, .int .u64 (dot.h.bits : Nat), .string dot.h.text, .slice a1 dot.h.keys.length c1, .slice a2 dot.items.len c2, .int .u8 (root.h.kind : Nat), .bool root.h.b, .int .i64 root.h.n, .int .u64 (root.h.bits : Nat), .string root.h.text, .slice a3 root.h.keys.length c3, .slice a4 root.items.len c4, .int .i64 (deep : Nat), .pointer (some ⟨rb, 0, none⟩)] 120)).alloc (.cells #[.int .u8 (h.kind : Nat), .int .i64 h.pos, .string h.text, .bool h.root, .slice an h.names.length cn, .string h.name, .slice ak kd.len ck, .slice ae el.len ce] 56))) := (((Below.refl _ W).alloc (Nat.le_refl _) _).alloc (by simp) _)
 have HS0 : Hid (((W.alloc (.cells #[.int .u8 (dot.h.kind : Nat), .bool dot.h.b, .int .i64 dot.h.n, .int .u64 (dot.h.bits : Nat), .string dot.h.text, .slice a1 dot.h.keys.length c1, .slice a2 dot.items.len c2, .int .u8 (root.h.kind : Nat), .bool root.h.b, .int .i64 root.h.n, .int .u64 (root.h.bits : Nat), .string root.h.text, .slice a3 root.h.keys.length c3, .slice a4 root.items.len c4, .int .i64 (deep : Nat), .pointer (some ⟨rb, 0, none⟩)] 120)).alloc (.cells #[.int .u8 (h.kind : Nat), .int .i64 h.pos, .string h.text, .bool h.root, .slice an h.names.length cn, .string h.name, .slice ak kd.len ck, .slice ae el.len ce] 56)).heap.size = W.heap.size + 2) := by unfold Hid; simp
 have HT : Hid (∀ W0, ((W.alloc (.cells #[.int .u8 (dot.h.kind : Nat), .bool dot.h.b, .int .i64 dot.h.n, .int .u64 (dot.h.bits : Nat), .string dot.h.text, .slice a1 dot.h.keys.length c1, .slice a2 dot.items.len c2, .int .u8 (root.h.kind : Nat), .bool root.h.b, .int .i64 root.h.n, .int .u64 (root.h.bits : Nat), .string root.h.text, .slice a3 root.h.keys.length c3, .slice a4 root.items.len c4, .int .i64 (deep : Nat), .pointer (some ⟨rb, 0, none⟩)] 120)).alloc (.cells #[.int .u8 (h.kind : Nat), .int .i64 h.pos, .string h.text, .bool h.root, .slice an h.names.length cn, .string h.name, .slice ak kd.len ck, .slice ae el.len ce] 56)) = W0 → W0.heap[W.heap.size]? = some (.cells #[.int .u8 (dot.h.kind : Nat), .bool dot.h.b, .int .i64 dot.h.n, .int .u64 (dot.h.bits : Nat), .string dot.h.text, .slice a1 dot.h.keys.length c1, .slice a2 dot.items.len c2, .int .u8 (root.h.kind : Nat), .bool root.h.b, .int .i64 root.h.n, .int .u64 (root.h.bits : Nat), .string root.h.text, .slice a3 root.h.keys.length c3, .slice a4 root.items.len c4, .int .i64 (deep : Nat), .pointer (some ⟨rb, 0, none⟩)] 120 (0, 0)) ∧ W0.heap[W.heap.size + 1]? = some (.cells #[.int .u8 (h.kind : Nat), .int .i64 h.pos, .string h.text, .bool h.root, .slice an h.names.length cn, .string h.name, .slice ak kd.len ck, .slice ae el.len ce] 56 (0, 0))) := by
  rintro W0 rfl
  have s1 : (W.alloc (.cells #[.int .u8 (dot.h.kind : Nat), .bool dot.h.b, .int .i64 dot.h.n, .int .u64 (dot.h.bits : Nat), .string dot.h.text, .slice a1 dot.h.keys.length c1, .slice a2 dot.items.len c2, .int .u8 (root.h.kind : Nat), .bool root.h.b, .int .i64 root.h.n, .int .u64 (root.h.bits : Nat), .string root.h.text, .slice a3 root.h.keys.length c3, .slice a4 root.items.len c4, .int .i64 (deep : Nat), .pointer (some ⟨rb, 0, none⟩)] 120 (0, 0))).heap.size = W.heap.size + 1 := by simp
  refine ⟨?_, ?_⟩
  · rw [Below.heap_alloc _ _ _ (by omega)]
    exact heap_alloc_new W _
  · skip
    have := heap_alloc_new (W.alloc (.cells #[.int .u8 (dot.h.kind : Nat), .bool dot.h.b, .int .i64 dot.h.n, .int .u64 (dot.h.bits : Nat), .string dot.h.text, .slice a1 dot.h.keys.length c1, .slice a2 dot.items.len c2, .int .u8 (root.h.kind : Nat), .bool root.h.b, .int .i64 root.h.n, .int .u64 (root.h.bits : Nat), .string root.h.text, .slice a3 root.h.keys.length c3, .slice a4 root.items.len c4, .int .i64 (deep : Nat), .pointer (some ⟨rb, 0, none⟩)] 120 (0, 0))) (.cells #[.int .u8 (h.kind : Nat), .int .i64 h.pos, .string h.text, .bool h.root, .slice an h.names.length cn, .string h.name, .slice ak kd.len ck, .slice ae el.len ce] 56 (0, 0)); rwa [s1] at this
 have hst0 := hrun.stp HB0.out
 have HST0 := Lib.hid hst0
 have HRUN0 := Lib.hid (hrun.below HB0.out)
 have HJ0 := Lib.hid (HJ _ _ _ _ hJ (off_below hrun.lt HB0.out))
 have HJJ := Lib.hid HJ
 have HRUNW := Lib.hid hrun
 have HOKW := Lib.hid hok
 have HSTW := Lib.hid hst
 have HKDW := Lib.hid hk
 have HELW := Lib.hid he
 have HSH := Lib.hid hsh
 clear hst0 hrun hJ hok hst hk he HJ hsh
 go_enter Tryz.func91, Tryz.ntmps91
 go_upto_region 1 with (fail)
 try simp only [Nat.add_assoc, Nat.reduceAdd]
 generalize hWW : World.alloc (World.alloc W _) _ = W0 at *
 obtain ⟨hr0, hp0⟩ := HT.out W0 rfl
 clear hWW HT
 have hz0 : W0.heap.size = W.heap.size + 2 := HS0.out
 have HR0 := Lib.hid hr0
 have HP0 := Lib.hid hp0
 have BC : Hid (Calls Tryz.prog 129 #[.agg #[.int .u8 (dot.h.kind : Nat), .bool dot.h.b, .int .i64 dot.h.n, .int .u64 (dot.h.bits : Nat), .string dot.h.text, .slice a1 dot.h.keys.length c1, .slice a2 dot.items.len c2, .int .u8 (root.h.kind : Nat), .bool root.h.b, .int .i64 root.h.n, .int .u64 (root.h.bits : Nat), .string root.h.text, .slice a3 root.h.keys.length c3, .slice a4 root.items.len c4, .int .i64 (deep : Nat), .pointer (some ⟨rb, 0, none⟩)], .agg #[.int .u8 (h.kind : Nat), .int .i64 h.pos, .string h.text, .bool h.root, .slice an h.names.length cn, .string h.name, .slice ak kd.len ck, .slice ae el.len ce]] W0 (BuP mb C l rb h.pos W0 (f + 1))) :=
  burn_calls dot root h deep rb mb C l (f + 1) HRUN0.out.fl a1 a2 a3 a4 an ak ae c1 c2 c3 c4 cn kd.len ck el.len ce W0 HRUN0.out.rest
 obtain ⟨q0, q1, q2, q3, q4, q5, q6, q7, q8, q9, q10, q11, q12, q13, q14, q15⟩ := runCs (P := W.heap.size) (dot := dot) (root := root) (a1 := a1) (a2 := a2) (a3 := a3) (a4 := a4) (c1 := c1) (c2 := c2) (c3 := c3) (c4 := c4) (deep := deep) (rb := rb) hr0
 obtain ⟨p0, p1, p2, p3, p4, p5, p6, p7⟩ := pcCs (P := W.heap.size + 1) (h := h) hp0
 clear hr0 hp0
 go_wp2_with fail
 refine BC.out.mono ?_
 rintro e w1 ⟨rfl, hre1, hoff1⟩
 have hw1 := hoff1.size
 have HST1 := Lib.hid (HST0.out.trans (stp_burn HRUN0.out.lt hoff1))
 have HRUN1 : Hid (RunA D C l rb mb S f w1) := HRUN0.out.step (stp_burn HRUN0.out.lt hoff1) hre1 (Nat.le_succ f)
 have HJ1 := Lib.hid (HJJ.out _ _ _ _ HJ0.out (hoff1.mono fun b hb => ⟨HRUN0.out.lt b hb, fun e => HRUN0.out.rbS (by rw [← e]; exact hb)⟩))
 have hrl := lt_of_block HRUNW.out.rest
 have HR1 : Hid (w1.heap[W.heap.size]? = some (.cells (runCells dot root a1 a2 a3 a4 c1 c2 c3 c4 deep rb) 120 (0, 0))) := (hoff1.block _ ⟨by omega, by omega⟩).trans HR0.out
 have HP1 : Hid (w1.heap[W.heap.size + 1]? = some (.cells (pCells h (.slice an h.names.length cn) (.slice ak kd.len ck) (.slice ae el.len ce)) 56 (0, 0))) := (hoff1.block _ ⟨by omega, by omega⟩).trans HP0.out
 have HRX : Hid (okS S rb w1 W.heap.size) := HRUNW.out.new (Nat.le_refl _) (by omega)
 have HPX : Hid (okS S rb w1 (W.heap.size + 1)) := HRUNW.out.new (by omega) (by omega)
 have hz1 : W.heap.size + 2 ≤ w1.heap.size := by omega
 clear hre1 hoff1 BC q0 q1 q2 q3 q4 q5 q6 q7 q8 q9 q10 q11 q12 q13 q14 q15 p0 p1 p2 p3 p4 p5 p6 p7
 obtain ⟨p0, p1, p2, p3, p4, p5, p6, p7⟩ := pcCs HP1.out
 have EC : Hid (Calls Tryz.prog 132 #[.agg #[.int .u8 (dot.h.kind : Nat), .bool dot.h.b, .int .i64 dot.h.n, .int .u64 (dot.h.bits : Nat), .string dot.h.text, .slice a1 dot.h.keys.length c1, .slice a2 dot.items.len c2, .int .u8 (root.h.kind : Nat), .bool root.h.b, .int .i64 root.h.n, .int .u64 (root.h.bits : Nat), .string root.h.text, .slice a3 root.h.keys.length c3, .slice a4 root.items.len c4, .int .i64 (deep : Nat), .pointer (some ⟨rb, 0, none⟩)], .agg #[.int .u8 (h.kind : Nat), .int .i64 h.pos, .string h.text, .bool h.root, .slice an h.names.length cn, .string h.name, .slice ak kd.len ck, .slice ae el.len ce]] w1 (EvP C l rb mb J (eachF D C n dot root deep h kd el f) S pre w1)) :=
  each_of_parts D C l rb mb J HJJ.out n HP.out dot root h kd el deep f S pre w1 a1 a2 a3 a4 an ak ae c1 c2 c3 c4 cn ck ce hfn (by omega) hdc HSHP.out hsk hse hck hce HRUN1.out HJ1.out (HOKW.out.step HST1.out) (HST1.out.strs HSTW.out) (HST1.out.parts HKDW.out) (HST1.out.parts HELW.out)
 go_upto_region 12 with (fail)
 obtain ⟨q0, q1, q2, q3, q4, q5, q6, q7, q8, q9, q10, q11, q12, q13, q14, q15⟩ := runCs HR1.out
 go_wp2_with fail
 refine EC.out.mono ?_
 rintro e w4 hev
 have HEV := Lib.hid (EvP.of_stp0 HST1.out hev)
 obtain ⟨S3, ys, -, -, -, hend⟩ := hev
 clear EC q0 q1 q2 q3 q4 q5 q6 q7 q8 q9 q10 q11 q12 q13 q14 q15 p0 p1 p2 p3 p4 p5 p6 p7
 generalize hq : (eachF D C n dot root deep h kd el f).err = q at *
 cases q with
 | none =>
   obtain ⟨rfl, -⟩ := hend
   go_wp2_with fail
   go_ret
   exact HEV.out
 | some q =>
   obtain ⟨qn, qp⟩ := q
   obtain rfl := hend
   go_wp2_with fail
   exact ⟨rfl, HEV.out⟩
end Go.Proofs.YtepcpgdfbaklfaaGreatDoor
