/-
  The walk of lacunalaw19.TmplParses. The condition: the listed variables read as they were laid; MaxLen holds some number.
-/
import Derived.Test.YtdgcdjpjnhlihaaGreatDoorTwkM
import Derived.Test.YtdgcdjpjnhlihaaGreatDoorTs2M
import Derived.Test.YtdgcdjpjnhlihaaGreatDoorMgTrp
import Derived.Test.YtdgcdjpjnhlihaaGreatDoorMgTul
import Derived.Test.YtdgcdjpjnhlihaaGreatDoorMgTs3
set_option linter.unusedVariables false
set_option linter.unusedSimpArgs false
namespace Go.Proofs.YtdgcdjpjnhlihaaGreatDoor
open Go.RowKit Go.Shelf

theorem neq_nil_p {P : Program} (w : World) {t tx : TypeId} {ms : Array (String × TypeId)} (v : Value) (ht : P.underlying t = some (.interface ms)) :
    (binOp .neq t (.iface tx v) .nilIface).run P w = .ok (.bool true) w := by
  have h : ∀ d : Nat, (Op.equalIn (d + 1) t (.iface tx v) .nilIface).run P w = .ok false w := fun d => by
    simp [Op.equalIn, run_underlying ht]
  simp only [binOp]
  simp [Op.equal, Op.maxDepth, h 9999]
theorem empty_z : TmZ ⟨.nil, []⟩ := ⟨trivial, fun d h => (by cases h), (by decide), (by decide), (by decide)⟩
set_option maxRecDepth 100000 in
set_option maxHeartbeats 20000000 in
theorem tmplParses_walk (s : ByteArray) (w : World) (hg : Gd w) (he : Eg w) : Calls Tryz.prog 7 #[.string s] w fun e w' => e = .returned (.bool true) ∧ Below w.heap.size w w' := by
  have WK : Hid (∀ W, Below w.heap.size w W → Calls Tryz.prog 8 #[] W fun e w' => e = .returned (.bool true) ∧ Below W.heap.size W w') := fun W hW => works_calls W (hg.below hW) (he.below hW)
  have HG := Lib.hid hg
  have HE := Lib.hid he
  clear hg he
  go_enter Tryz.func7, Tryz.ntmps7
  go_wp2_with fail
  refine (WK.out _ (Below.refl _ _)).mono ?_
  rintro e w1 ⟨rfl, hb1⟩
  have HB1 := Lib.hid hb1
  clear hb1 WK
  by_cases hbig : 16384 < s.size
  · have hbig' : (16384 : Int) < (s.size : Int) := by omega
    clear hbig
    go_wp2_with fail
    go_ret
    exact ⟨rfl, HB1.out⟩
  have hbig' : ¬ (16384 : Int) < (s.size : Int) := by omega
  have hsz : s.size ≤ 16384 := by omega
  have PA : Hid (∀ W, Below w.heap.size w W → Calls Tryz.prog 16 #[.string s] W (ParseU W (parseB badB (bl s)))) := fun W hW => parse_callsU s hsz W (HG.out.below hW)
  have PR : Hid (∀ W, Calls Tryz.prog 19 #[.string s] W (RefR W (parseB badB (bl s)))) := fun W => parseR_calls s hsz W
  clear hbig HG
  have PA1 := Lib.hid (PA.out w1 HB1.out)
  cases hr : parseB badB (bl s) with
  | err n p =>
    have hpe := parse_err (bl s) (by rw [bl_len]; exact hsz) n p hr
    have hn0 : n ≠ 0 := by have := hpe.1.1; omega
    rw [hr] at PA PR PA1
    clear hr hpe
    go_upto_region 7 with (go_at_call 16; refine PA1.out.mono ?_; rintro e w2 ⟨hb2, bf, rfl, hbf, hfo⟩; unfold failV)
    have HB2 := Lib.hid (HB1.out.trans (hb2.mono HB1.out.size))
    have ha3 : Below w2.heap.size w2 (w2.alloc (.cells #[.slice none 0 0, .slice none 0 0] 25)) := (Below.refl _ w2).alloc (Nat.le_refl _) _
    have ht3 := heap_alloc_new w2 (.cells #[.slice none 0 0, .slice none 0 0] 25)
    have hf3 := (ha3.block bf (lt_of_block hfo)).trans hfo
    have hz3 : w2.heap.size < (w2.alloc (.cells #[.slice none 0 0, .slice none 0 0] 25)).heap.size := by simp
    generalize hW3 : World.alloc w2 _ = w3 at *
    have HB3 := Lib.hid (HB2.out.trans (ha3.mono HB2.out.size))
    have PA3 := Lib.hid (PA.out w3 HB3.out)
    clear hW3 hb2 hfo ha3 PA1 PA
    generalize hT1 : w2.heap.size = T1 at *
    clear hT1
    go_upto_region 8 with (go_at_call 16; refine PA3.out.mono ?_; rintro e w4 ⟨hb4, bf2, rfl, hbf2, hfo2⟩; unfold failV)
    have ha5 : Below w4.heap.size w4 (w4.alloc (.cells #[.slice none 0 0, .slice none 0 0] 25)) := (Below.refl _ w4).alloc (Nat.le_refl _) _
    have ht5 := heap_alloc_new w4 (.cells #[.slice none 0 0, .slice none 0 0] 25)
    have hf5 := (ha5.block bf2 (lt_of_block hfo2)).trans hfo2
    have hz5 : w4.heap.size < (w4.alloc (.cells #[.slice none 0 0, .slice none 0 0] 25)).heap.size := by simp
    have hb35 : Below w3.heap.size w3 (w4.alloc (.cells #[.slice none 0 0, .slice none 0 0] 25)) := hb4.trans (ha5.mono hb4.size)
    generalize hW5 : World.alloc w4 _ = w5 at *
    clear hW5 hb4 hfo2 ha5 PA3
    have x0 : w5.cell? ⟨w4.heap.size, 0, none⟩ = some (.slice none 0 0) := by rw [cell_of_heap' ht5]; rfl
    have SC := Lib.hid (spoil_calls w5.heap.size .nil (.slice none 0 0) w5 (Parts.nil _ _))
    go_upto_region 9 with (go_at_call 18; refine SC.out.mono ?_; rintro e w6 ⟨rfl, hb6⟩)
    have PR6 := Lib.hid (PR.out w6)
    go_upto_region 10 with (go_at_call 19; refine PR6.out.mono ?_; rintro e w7 ⟨hb7, rfl⟩)
    have ha8 : Below w7.heap.size w7 (w7.alloc (.cells #[.slice none 0 0, .slice none 0 0] 25)) := (Below.refl _ w7).alloc (Nat.le_refl _) _
    have ht8 := heap_alloc_new w7 (.cells #[.slice none 0 0, .slice none 0 0] 25)
    have hz8 : w7.heap.size < (w7.alloc (.cells #[.slice none 0 0, .slice none 0 0] 25)).heap.size := by simp
    have hb58 : Below w5.heap.size w5 (w7.alloc (.cells #[.slice none 0 0, .slice none 0 0] 25)) := (hb6.trans (hb7.mono hb6.size)).trans (ha8.mono (hb6.trans (hb7.mono hb6.size)).size)
    generalize hW8 : World.alloc w7 _ = w8 at *
    have hb38 : Below w3.heap.size w3 w8 := hb35.trans (hb58.mono hb35.size)
    have hf8 := (hb38.block bf (lt_of_block hf3)).trans hf3
    have hg8 := (hb58.block bf2 (lt_of_block hf5)).trans hf5
    have hT8 := (hb38.block T1 (lt_of_block ht3)).trans ht3
    have HB8 := Lib.hid (HB3.out.trans (hb38.mono HB3.out.size))
    generalize hT3 : w7.heap.size = T3 at *
    clear hW8 hb6 hb7 ha8 hb58 hb38 hb35 hf3 hf5 ht3 ht5 x0 SC PR6 PR hT3 hbf hbf2 hz3 hz5
    have WR1 := Lib.hid (wrong_calls bf n p w8 hf8 (HE.out.below HB8.out))
    unfold failV at WR1
    go_upto_region 11 with (go_at_call 17; refine WR1.out.mono ?_; rintro e w9 ⟨rfl, hb9⟩)
    have HB9 := Lib.hid (HB8.out.trans (hb9.mono HB8.out.size))
    have WR2 := Lib.hid (wrong_calls bf2 n p w9 ((hb9.block bf2 (lt_of_block hg8)).trans hg8) (HE.out.below HB9.out))
    unfold failV at WR2
    go_upto_region 12 with (go_at_call 17; refine WR2.out.mono ?_; rintro e w10 ⟨rfl, hb10⟩)
    have hb810 : Below w8.heap.size w8 w10 := hb9.trans (hb10.mono hb9.size)
    have hf10 := (hb810.block bf (lt_of_block hf8)).trans hf8
    have hT10 := (hb810.block T1 (lt_of_block hT8)).trans hT8
    have hS10 := (hb810.block T3 hz8).trans ht8
    have HB10 := Lib.hid (HB8.out.trans (hb810.mono HB8.out.size))
    have y0 : w10.cell? ⟨T1, 0, none⟩ = some (.slice none 0 0) := by rw [cell_of_heap' hT10]; rfl
    have y1 : w10.cell? ⟨T1, 1, none⟩ = some (.slice none 0 0) := by rw [cell_of_heap' hT10]; rfl
    have z0 : w10.cell? ⟨T3, 0, none⟩ = some (.slice none 0 0) := by rw [cell_of_heap' hS10]; rfl
    have z1 : w10.cell? ⟨T3, 1, none⟩ = some (.slice none 0 0) := by rw [cell_of_heap' hS10]; rfl
    have ST := Lib.hid (sameTemplate_calls ⟨.nil, []⟩ ⟨.nil, []⟩ rfl true (fun _ => rfl) (fun _ => True) (fun _ => True) (.slice none 0 0) (.slice none 0 0) (.slice none 0 0) (.slice none 0 0) w10 empty_z (Parts.nil _ _) (Parts.nil _ _) (Defs.nil _ _) (Defs.nil _ _))
    clear hb9 hb10 WR1 WR2 hT8 ht8 hg8 hf8 hT10 hS10 hb810 hz8
    go_upto_region 13 with (go_at_call 14; refine ST.out.mono ?_; rintro e w11 ⟨rfl, hb11⟩)
    have hf11 := (hb11.block bf (lt_of_block hf10)).trans hf10
    have HB11 := Lib.hid (HB10.out.trans (hb11.mono HB10.out.size))
    go_upto_region 14 with (fail)
    have ha12 : Below w11.heap.size w11 (w11.alloc (.cells #[.pointer none] 48)) := (Below.refl _ w11).alloc (Nat.le_refl _) _
    have hx12 := heap_alloc_new w11 (.cells #[.pointer none] 48)
    have hf12 := (ha12.block bf (lt_of_block hf11)).trans hf11
    have hbx : bf ≠ w11.heap.size := Nat.ne_of_lt (lt_of_block hf11)
    have HB12 := Lib.hid (HB11.out.trans (ha12.mono HB11.out.size))
    generalize hW12 : World.alloc w11 _ = w12 at *
    have AS := Lib.hid (as_gF ⟨bf, 0, none⟩ w11.heap.size (.pointer none) w12 (HE.out.below HB12.out) hx12)
    have hxl := lt_of_block hx12
    have hwx : w.heap.size ≤ w11.heap.size := HB11.out.size
    generalize hXB : w11.heap.size = XB at *
    clear hW12 hb11 hf11 hf10 ha12 hx12 ST y0 y1 z0 z1 hXB
    go_upto_region 15 with (go_at_call 20; refine AS.out.mono ?_; rintro e w13 ⟨rfl, hgr, hx13⟩)
    have hf13 := (hgr.block bf (lt_of_block hf12) (by intro e; injection e with e; exact hbx e)).trans hf12
    have HB13 : Hid (Below w.heap.size w w13) := HB12.out.grown hgr HB12.out.size (fun k hk => by injection hk with hk; rw [← hk]; exact hwx)
    have v0 : w13.cell? ⟨XB, 0, none⟩ = some (.pointer (some ⟨bf, 0, none⟩)) := by rw [cell_of_heap' hx13]; rfl
    have f0 : w13.cell? ⟨bf, 0, none⟩ = some (.string ⟨#[80, 97, 114, 115, 101]⟩) := by rw [cell_of_heap' hf13]; rfl
    have f1 : w13.cell? ⟨bf, 1, none⟩ = some (.int .i64 (p : Nat)) := by rw [cell_of_heap' hf13]; rfl
    have IS := Lib.hid (is_calls bf n p w13 hf13)
    unfold failV at IS
    have hnil := neq_nil_p (P := Tryz.prog) w13 (tx := 48) (.pointer (some ⟨bf, 0, none⟩)) Tryz.underlying36
    clear hgr hx13 hf13 hf12 AS
    go_wp2_with (go_at_call 21; refine IS.out.mono ?_; rintro e wz ⟨rfl, rfl⟩)
    go_ret
    exact ⟨rfl, HB13.out⟩
  | ok t =>
    have HZ := Lib.hid (read_tmZ (bl s) (by rw [bl_len]; exact hsz) t hr)
    rw [hr] at PA PR PA1
    clear hr
    go_upto_region 7 with (go_at_call 16; refine PA1.out.mono ?_; rintro e w2 ⟨hb2, vm, vd, rfl, hpm, hpd⟩; obtain ⟨am, cm, rfl, -⟩ := id hpm; obtain ⟨ad, cd, rfl, -⟩ := id hpd)
    have HB2 := Lib.hid (HB1.out.trans (hb2.mono HB1.out.size))
    have ha3 : Below w2.heap.size w2 (w2.alloc (.cells #[.slice am t.main.len cm, .slice ad t.defs.length cd] 25)) := (Below.refl _ w2).alloc (Nat.le_refl _) _
    have ht3 := heap_alloc_new w2 (.cells #[.slice am t.main.len cm, .slice ad t.defs.length cd] 25)
    have hpm3 : Parts (· < (w2.alloc (.cells #[.slice am t.main.len cm, .slice ad t.defs.length cd] 25)).heap.size) _ _ t.main := (hpm.kept (fun b hb => ha3.block b hb.2.1)).mono (fun b hb => Nat.lt_of_lt_of_le hb.2.1 ha3.size)
    have hpd3 : Defs (· < (w2.alloc (.cells #[.slice am t.main.len cm, .slice ad t.defs.length cd] 25)).heap.size) _ _ t.defs := (hpd.kept (fun b hb => ha3.block b hb.2)).mono (fun b hb => Nat.lt_of_lt_of_le hb.2 ha3.size)
    generalize hW3 : World.alloc w2 _ = w3 at *
    have HB3 := Lib.hid (HB2.out.trans (ha3.mono HB2.out.size))
    have PA3 := Lib.hid (PA.out w3 HB3.out)
    clear hW3 hb2 hpm hpd ha3 PA1 PA
    generalize hT1 : w2.heap.size = T1 at *
    clear hT1
    go_upto_region 8 with (go_at_call 16; refine PA3.out.mono ?_; rintro e w4 ⟨hb4, um, ud, rfl, hum, hud⟩; obtain ⟨aum, cum, rfl, -⟩ := id hum; obtain ⟨aud, cud, rfl, -⟩ := id hud)
    have ha5 : Below w4.heap.size w4 (w4.alloc (.cells #[.slice aum t.main.len cum, .slice aud t.defs.length cud] 25)) := (Below.refl _ w4).alloc (Nat.le_refl _) _
    have ht5 := heap_alloc_new w4 (.cells #[.slice aum t.main.len cum, .slice aud t.defs.length cud] 25)
    have hum5 : Parts (fun b => w3.heap.size ≤ b ∧ b < (w4.alloc (.cells #[.slice aum t.main.len cum, .slice aud t.defs.length cud] 25)).heap.size ∧ UnF (w4.alloc (.cells #[.slice aum t.main.len cum, .slice aud t.defs.length cud] 25)) b) _ _ t.main := (hum.kept (fun b hb => ha5.block b hb.2.1)).mono (fun b hb => ⟨hb.1, Nat.lt_of_lt_of_le hb.2.1 ha5.size, hb.2.2.same (ha5.block b hb.2.1)⟩)
    have hb35 : Below w3.heap.size w3 (w4.alloc (.cells #[.slice aum t.main.len cum, .slice aud t.defs.length cud] 25)) := hb4.trans (ha5.mono hb4.size)
    generalize hW5 : World.alloc w4 _ = w5 at *
    clear hW5 hb4 hum hud ha5 PA3
    have x0 : w5.cell? ⟨w4.heap.size, 0, none⟩ = some (.slice aum t.main.len cum) := by rw [cell_of_heap' ht5]; rfl
    have SC := Lib.hid (spoil_calls w3.heap.size t.main _ w5 hum5)
    go_upto_region 9 with (go_at_call 18; refine SC.out.mono ?_; rintro e w6 ⟨rfl, hb6⟩)
    have hb36 : Below w3.heap.size w3 w6 := hb35.trans hb6
    have PR6 := Lib.hid (PR.out w6)
    go_upto_region 10 with (go_at_call 19; refine PR6.out.mono ?_; rintro e w7 ⟨hb7, rm, rd, rfl, hrm, hrd⟩; obtain ⟨arm, crm, rfl, -⟩ := id hrm; obtain ⟨ard, crd, rfl, -⟩ := id hrd)
    have ha8 : Below w7.heap.size w7 (w7.alloc (.cells #[.slice arm t.main.len crm, .slice ard t.defs.length crd] 25)) := (Below.refl _ w7).alloc (Nat.le_refl _) _
    have ht8 := heap_alloc_new w7 (.cells #[.slice arm t.main.len crm, .slice ard t.defs.length crd] 25)
    have hz8 : w7.heap.size < (w7.alloc (.cells #[.slice arm t.main.len crm, .slice ard t.defs.length crd] 25)).heap.size := by simp
    have hrm8 : Parts (· < (w7.alloc (.cells #[.slice arm t.main.len crm, .slice ard t.defs.length crd] 25)).heap.size) _ _ t.main := (hrm.kept (fun b hb => ha8.block b hb.2)).mono (fun b hb => Nat.lt_of_lt_of_le hb.2 ha8.size)
    have hrd8 : Defs (· < (w7.alloc (.cells #[.slice arm t.main.len crm, .slice ard t.defs.length crd] 25)).heap.size) _ _ t.defs := (hrd.kept (fun b hb => ha8.block b hb.2)).mono (fun b hb => Nat.lt_of_lt_of_le hb.2 ha8.size)
    have hb38 : Below w3.heap.size w3 (w7.alloc (.cells #[.slice arm t.main.len crm, .slice ard t.defs.length crd] 25)) := (hb36.trans (hb7.mono hb36.size)).trans (ha8.mono (hb36.trans (hb7.mono hb36.size)).size)
    generalize hW8 : World.alloc w7 _ = w8 at *
    have hT8 := (hb38.block T1 (lt_of_block ht3)).trans ht3
    have hpm8 : Parts (· < w8.heap.size) w8 _ t.main := (hpm3.kept (fun b hb => hb38.block b hb)).mono (fun b hb => Nat.lt_of_lt_of_le hb hb38.size)
    have hpd8 : Defs (· < w8.heap.size) w8 _ t.defs := (hpd3.kept (fun b hb => hb38.block b hb)).mono (fun b hb => Nat.lt_of_lt_of_le hb hb38.size)
    have HB8 := Lib.hid (HB3.out.trans (hb38.mono HB3.out.size))
    generalize hT3 : w7.heap.size = T3 at *
    clear hW8 hb6 hb7 ha8 hb38 hb36 hb35 ht3 ht5 x0 SC PR6 PR hT3 hrm hrd hum5 hpm3 hpd3
    go_upto_region 11 with (go_at_call 17; refine (wrong_nil w8).mono ?_; rintro e w9 ⟨rfl, hb9⟩)
    go_upto_region 12 with (go_at_call 17; refine (wrong_nil w9).mono ?_; rintro e w10 ⟨rfl, hb10⟩)
    have hb810 : Below w8.heap.size w8 w10 := hb9.trans (hb10.mono hb9.size)
    have hT10 := (hb810.block T1 (lt_of_block hT8)).trans hT8
    have hS10 := (hb810.block T3 hz8).trans ht8
    have HB10 := Lib.hid (HB8.out.trans (hb810.mono HB8.out.size))
    have y0 : w10.cell? ⟨T1, 0, none⟩ = some (.slice am t.main.len cm) := by rw [cell_of_heap' hT10]; rfl
    have y1 : w10.cell? ⟨T1, 1, none⟩ = some (.slice ad t.defs.length cd) := by rw [cell_of_heap' hT10]; rfl
    have z0 : w10.cell? ⟨T3, 0, none⟩ = some (.slice arm t.main.len crm) := by rw [cell_of_heap' hS10]; rfl
    have z1 : w10.cell? ⟨T3, 1, none⟩ = some (.slice ard t.defs.length crd) := by rw [cell_of_heap' hS10]; rfl
    have ST := Lib.hid (sameTemplate_calls t t rfl true (fun _ => rfl) (· < w8.heap.size) (· < w8.heap.size) _ _ _ _ w10 HZ.out (hpm8.kept (fun b hb => hb810.block b hb)) (hrm8.kept (fun b hb => hb810.block b hb)) (hpd8.kept (fun b hb => hb810.block b hb)) (hrd8.kept (fun b hb => hb810.block b hb)))
    clear hb9 hb10 hT8 ht8 hT10 hS10 hb810 hz8 hpm8 hpd8 hrm8 hrd8
    go_upto_region 13 with (go_at_call 14; refine ST.out.mono ?_; rintro e w11 ⟨rfl, hb11⟩)
    have HB11 := Lib.hid (HB10.out.trans (hb11.mono HB10.out.size))
    have HB12 := Lib.hid (HB11.out.alloc HB11.out.size (.cells #[.pointer none] 48))
    have AN := Lib.hid (fun W : World => as_none ⟨w11.heap.size, 0, none⟩ 50 W)
    clear hb11 ST y0 y1 z0 z1
    go_wp2_with (go_at_call 20; refine (AN.out _).mono ?_; rintro e w13 ⟨rfl, rfl⟩)
    go_ret
    exact ⟨rfl, HB12.out⟩
end Go.Proofs.YtdgcdjpjnhlihaaGreatDoor
