/-
  The contract of lacunalaw19.works: what the chapter's examples fix holds. The condition: errors.errorType holds the handle of the type error; MaxLen holds some number; the tables of unicode/utf8 read as they were laid.
-/
import Derived.Test.YtdgcdjpjnhlihaaGreatDoorTatM
import Derived.Test.YtdgcdjpjnhlihaaGreatDoorMgTk2
import Derived.Test.YtdgcdjpjnhlihaaGreatDoorMgTpg
set_option linter.unusedSimpArgs false
set_option linter.unusedVariables false
namespace Go.Proofs.YtdgcdjpjnhlihaaGreatDoor
open Go.RowKit Go.Shelf
attribute [local go_sem ↓] Go.wp_at_zero Go.wp_at_succ

def w1S : ByteArray := ⟨#[97, 123, 123, 105, 102, 32, 46, 120, 46, 121, 125, 125, 98, 123, 123, 101, 108, 115, 101, 125, 125, 123, 123, 32, 36, 32, 125, 125, 123, 123, 101, 110, 100, 125, 125, 123, 123, 100, 101, 102, 105, 110, 101, 32, 102, 125, 125, 99, 123, 123, 101, 110, 100, 125, 125, 123, 123, 99, 97, 108, 108, 32, 102, 32, 46, 125, 125]⟩
def w2S : ByteArray := ⟨#[97, 123, 123, 125, 125]⟩
def w3S : ByteArray := ⟨#[123, 123, 105, 102, 32, 46, 125, 125]⟩
def w1P : ByteArray := ⟨#[123, 123, 100, 101, 102, 105, 110, 101, 32, 102, 125, 125, 99, 123, 123, 101, 110, 100, 125, 125, 97, 123, 123, 105, 102, 32, 46, 120, 46, 121, 125, 125, 98, 123, 123, 101, 108, 115, 101, 125, 125, 123, 123, 36, 125, 125, 123, 123, 101, 110, 100, 125, 125, 123, 123, 99, 97, 108, 108, 32, 102, 32, 46, 125, 125]⟩
/-- The chapter's template. -/
def w1T : Tm := ⟨.cons (hdText 0 [97]) .nil .nil (.cons (hdWay 3 1 false [[120], [121]]) (.cons (hdText 12 [98]) .nil .nil .nil) (.cons (hdHole 21 true []) .nil .nil .nil) (.cons (hdCall 55 [102] false []) .nil .nil .nil)), [⟨mkB [102], 35, .cons (hdText 47 [99]) .nil .nil .nil⟩]⟩
theorem w1_parse : parseB (fun _ => none) (bl w1S) = .ok w1T := by kernel_rfl
theorem w2_parse : parseB (fun _ => none) (bl w2S) = .err 190 1 := by kernel_rfl
theorem w3_parse : parseB (fun _ => none) (bl w3S) = .err 192 8 := by kernel_rfl
theorem w1_valid : Lib.validD (bl w1S) = true := by kernel_rfl
theorem w2_valid : Lib.validD (bl w2S) = true := by kernel_rfl
theorem w3_valid : Lib.validD (bl w3S) = true := by kernel_rfl
theorem w1_check : w1T.check = 0 := by kernel_rfl
theorem w1_src : mkB w1T.src = w1P := by kernel_rfl
theorem w1_z : TmZ w1T := by
  have e : ∀ h : Hd, h ∈ [hdText 0 [97], hdWay 3 1 false [[120], [121]], hdText 12 [98], hdHole 21 true [], hdCall 55 [102] false [], hdText 47 [99]] → h.sm := by
    intro h hm
    simp only [List.mem_cons, List.mem_nil_iff, or_false] at hm
    rcases hm with rfl | rfl | rfl | rfl | rfl | rfl <;> exact ⟨by decide, by decide, by decide, by decide, by decide⟩
  refine ⟨?_, ?_, ?_, ?_, ?_⟩
  · exact ⟨e _ (by simp), trivial, trivial, e _ (by simp), ⟨e _ (by simp), trivial, trivial, trivial⟩, ⟨e _ (by simp), trivial, trivial, trivial⟩, e _ (by simp), trivial, trivial, trivial⟩
  · intro d hd
    simp only [w1T, List.mem_singleton] at hd
    subst hd
    exact ⟨by decide, e _ (by simp), trivial, trivial, trivial⟩
  · simp [w1T, Pt.cnt]
  · simp [w1T]
  · have : w1T.src.length = 65 := by kernel_rfl
    omega
/-- What the examples look at. -/
theorem w1_cells {ok : Nat → Prop} {w : World} {vm vd : Value} (h : Parts ok w vm w1T.main) (hd : Defs ok w vd w1T.defs) :
    ∃ (b o c be oe ce cn cd : Nat) (an ad : Option Addr), vm = .slice (some ⟨b, o, none⟩) 3 c ∧ vd = .slice ad 1 cd ∧ 3 ≤ c ∧ 1 ≤ ce ∧ ok b ∧ ok be ∧
      w.cell? ⟨b, o + 8, none⟩ = some (.int .u8 3) ∧ w.cell? ⟨b, o + 8 + 1, none⟩ = some (.int .i64 1) ∧ w.cell? ⟨b, o + 8 + 4, none⟩ = some (.slice an 2 cn) ∧ w.cell? ⟨b, o + 8 + 7, none⟩ = some (.slice (some ⟨be, oe, none⟩) 1 ce) ∧ w.cell? ⟨be, oe + 3, none⟩ = some (.bool true) ∧
      w.cell? ⟨b, o + 16 + 5, none⟩ = some (.string ⟨#[102]⟩) := by
  obtain ⟨a, c, rfl, h1, h2, h3⟩ := h
  obtain ⟨ad, cd, rfl, -⟩ := hd
  obtain ⟨b, o, rfl, hb, hr⟩ := h3 (by simp [w1T])
  obtain ⟨-, -, -, ⟨⟨c0, c1, -, -, ⟨v, c4, hs⟩, -⟩, -, ⟨ae, ce, c7, e1, e2, e3⟩, ⟨⟨-, -, -, -, -, d5⟩, -⟩⟩⟩ := hr
  obtain ⟨be, oe, rfl, hbe, he⟩ := e3 (by simp)
  obtain ⟨⟨-, -, -, r3, -⟩, -⟩ := he
  obtain ⟨an, cn, rfl, -⟩ := hs
  exact ⟨b, o, c, be, oe, ce, cn, cd, an, ad, rfl, rfl, h1, e1, hb, hbe, c0, c1, c4, c7, r3, d5⟩
set_option maxRecDepth 100000 in
set_option maxHeartbeats 20000000 in
theorem works_calls (w : World) (hg : Gd w) (he : Eg w) : Calls Tryz.prog 8 #[] w fun e w' => e = .returned (.bool true) ∧ Below w.heap.size w w' := by
  have PC1 : Hid (∀ W, Below w.heap.size w W → Calls Tryz.prog 16 #[.string w1S] W (ParseR W (.ok w1T))) := fun W hW => by
    have := parse_good (fun _ => none) w1S (by decide) w1_valid rfl W (hg.below hW); rwa [w1_parse] at this
  have PC2 : Hid (∀ W, Below w.heap.size w W → Calls Tryz.prog 16 #[.string w2S] W (ParseR W (.err 190 1))) := fun W hW => by
    have := parse_good (fun _ => none) w2S (by decide) w2_valid rfl W (hg.below hW); rwa [w2_parse] at this
  have PC3 : Hid (∀ W, Below w.heap.size w W → Calls Tryz.prog 16 #[.string w3S] W (ParseR W (.err 192 8))) := fun W hW => by
    have := parse_good (fun _ => none) w3S (by decide) w3_valid rfl W (hg.below hW); rwa [w3_parse] at this
  have WC : Hid (∀ W bf n p, Below w.heap.size w W → W.heap[bf]? = some (failO n p) → Calls Tryz.prog 17 #[failV bf] W fun e w' => e = .returned (.tuple #[.int .i64 (n : Nat), .int .i64 (p : Nat)]) ∧ Below W.heap.size W w') := fun W bf n p hW hb => wrong_calls bf n p W hb (he.below hW)
  have GW : Hid (∀ W, Below w.heap.size w W → Gd W) := fun W hW => hg.below hW
  unfold w1S at PC1
  unfold w2S at PC2
  unfold w3S at PC3
  clear hg he
  go_enter Tryz.func8, Tryz.ntmps8
  go_wp2_with fail
  refine (PC1.out _ (Below.refl _ _)).mono ?_
  rintro e w1 ⟨hb1, vm, vd, rfl, hvm, hvd⟩
  obtain ⟨b, o, c, be, oe, ce, cn, cd, an, ad, rfl, rfl, hc3, hce, hb, hbe, k0, k1, k4, k7, ke, k5⟩ := w1_cells hvm hvd
  have HB1 := Lib.hid hb1
  have HVM := Lib.hid hvm
  have HVD := Lib.hid hvd
  have HT1 : Hid ((w1.alloc (.cells #[.slice (some ⟨b, o, none⟩) 3 c, .slice ad 1 cd] 25)).heap[w1.heap.size]? = some (.cells #[.slice (some ⟨b, o, none⟩) 3 c, .slice ad 1 cd] 25 (0, 0))) := heap_alloc_new w1 _
  have HA1 : Hid (Below w1.heap.size w1 (w1.alloc (.cells #[.slice (some ⟨b, o, none⟩) 3 c, .slice ad 1 cd] 25))) := (Below.refl _ w1).alloc (Nat.le_refl _) _
  have HS1 : Hid ((w1.alloc (.cells #[.slice (some ⟨b, o, none⟩) 3 c, .slice ad 1 cd] 25)).heap.size = w1.heap.size + 1) := by unfold Hid; simp
  have HK : Hid (∀ W, Below w1.heap.size w1 W → W.cell? ⟨b, o + 8, none⟩ = some (.int .u8 3) ∧ W.cell? ⟨b, o + 8 + 1, none⟩ = some (.int .i64 1) ∧ W.cell? ⟨b, o + 8 + 4, none⟩ = some (.slice an 2 cn) ∧ W.cell? ⟨b, o + 8 + 7, none⟩ = some (.slice (some ⟨be, oe, none⟩) 1 ce) ∧ W.cell? ⟨be, oe + 3, none⟩ = some (.bool true) ∧
      W.cell? ⟨b, o + 16 + 5, none⟩ = some (.string ⟨#[102]⟩)) := fun W hW =>
    ⟨(hW.cell (p := ⟨b, _, none⟩) hb.2).trans k0, (hW.cell (p := ⟨b, _, none⟩) hb.2).trans k1, (hW.cell (p := ⟨b, _, none⟩) hb.2).trans k4, (hW.cell (p := ⟨b, _, none⟩) hb.2).trans k7, (hW.cell (p := ⟨be, _, none⟩) hbe.2).trans ke, (hW.cell (p := ⟨b, _, none⟩) hb.2).trans k5⟩
  clear hb1 hvm hvd k0 k1 k4 k7 ke k5
  go_wp2_with fail
  generalize hWW : World.alloc w1 _ = w2 at *
  clear hWW
  have HB2 : Hid (Below w.heap.size w w2) := HB1.out.trans (HA1.out.mono HB1.out.size)
  refine (PC2.out _ HB2.out).mono ?_
  rintro e w3 ⟨hb3, bf, rfl, hbf1, hbf2⟩
  have HB3 : Hid (Below w2.heap.size w2 w3) := hb3
  have HF3 := Lib.hid hbf2
  clear hb3 hbf2
  go_wp2_with fail
  have HA3 : Hid (Below w3.heap.size w3 (w3.alloc (.cells #[.slice none 0 0, .slice none 0 0] 25))) := (Below.refl _ w3).alloc (Nat.le_refl _) _
  generalize hWW : World.alloc w3 _ = w4 at *
  clear hWW
  have HB24 : Hid (Below w2.heap.size w2 w4) := HB3.out.trans (HA3.out.mono HB3.out.size)
  have HB4 : Hid (Below w.heap.size w w4) := HB2.out.trans (HB24.out.mono HB2.out.size)
  refine (WC.out _ bf 190 1 HB4.out ((HA3.out.block _ (lt_of_block HF3.out)).trans HF3.out)).mono ?_
  rintro e w5 ⟨rfl, hb5⟩
  have HB25 : Hid (Below w2.heap.size w2 w5) := HB24.out.trans (hb5.mono HB24.out.size)
  have HB5 : Hid (Below w.heap.size w w5) := HB2.out.trans (HB25.out.mono HB2.out.size)
  clear hb5 HB3 HF3 HA3 hbf1
  go_wp2_with fail
  refine (PC3.out _ HB5.out).mono ?_
  rintro e w6 ⟨hb6, bg, rfl, hbg1, hbg2⟩
  have HB6 : Hid (Below w5.heap.size w5 w6) := hb6
  have HF6 := Lib.hid hbg2
  clear hb6 hbg2
  go_wp2_with fail
  have HA6 : Hid (Below w6.heap.size w6 (w6.alloc (.cells #[.slice none 0 0, .slice none 0 0] 25))) := (Below.refl _ w6).alloc (Nat.le_refl _) _
  generalize hWW : World.alloc w6 _ = w7 at *
  clear hWW
  have HB57 : Hid (Below w5.heap.size w5 w7) := HB6.out.trans (HA6.out.mono HB6.out.size)
  have HB27 : Hid (Below w2.heap.size w2 w7) := HB25.out.trans (HB57.out.mono HB25.out.size)
  have HB7 : Hid (Below w.heap.size w w7) := HB2.out.trans (HB27.out.mono HB2.out.size)
  refine (WC.out _ bg 192 8 HB7.out ((HA6.out.block _ (lt_of_block HF6.out)).trans HF6.out)).mono ?_
  rintro e w8 ⟨rfl, hb8⟩
  have HB28 : Hid (Below w2.heap.size w2 w8) := HB27.out.trans (hb8.mono HB27.out.size)
  have HB8 : Hid (Below w.heap.size w w8) := HB2.out.trans (HB28.out.mono HB2.out.size)
  have HB18 : Hid (Below w1.heap.size w1 w8) := HA1.out.trans (HB28.out.mono HA1.out.size)
  clear hb8 HB6 HF6 HA6 hbg1
  have HT8 : Hid (w8.heap[w1.heap.size]? = some (.cells #[.slice (some ⟨b, o, none⟩) 3 c, .slice ad 1 cd] 25 (0, 0))) := (HB28.out.block _ (by rw [HS1.out]; omega)).trans HT1.out
  have t0 : w8.cell? ⟨w1.heap.size, 0, none⟩ = some (.slice (some ⟨b, o, none⟩) 3 c) := by rw [cell_of_heap' HT8.out]; rfl
  have t1 : w8.cell? ⟨w1.heap.size, 1, none⟩ = some (.slice ad 1 cd) := by rw [cell_of_heap' HT8.out]; rfl
  have PR : Hid (Calls Tryz.prog 12 #[.agg #[.slice (some ⟨b, o, none⟩) 3 c, .slice ad 1 cd]] w8 fun e w' => e = .returned (.tuple #[.string w1P, .int .i64 0]) ∧ Below w8.heap.size w8 w') := by
    refine (print_calls w1T w1_z _ _ w8 (GW.out _ HB8.out) ((HVM.out.kept (fun b hb => HB18.out.block b hb.2)).mono (fun b hb => Nat.lt_of_lt_of_le hb.2 HB18.out.size)) ((HVD.out.kept (fun b hb => HB18.out.block b hb.2)).mono (fun b hb => Nat.lt_of_lt_of_le hb.2 HB18.out.size))).mono ?_
    rintro e w' ⟨rfl, h2⟩
    refine ⟨?_, h2⟩
    unfold printS
    rw [w1_check, if_pos rfl, w1_src]; rfl
  unfold w1P at PR
  go_wp2_with fail
  refine PR.out.mono ?_
  rintro e w9 ⟨rfl, hb9⟩
  have HB9 : Hid (Below w.heap.size w w9) := HB8.out.trans (hb9.mono HB8.out.size)
  obtain ⟨k0, k1, k4, k7, ke, k5⟩ := HK.out w9 (HB18.out.trans (hb9.mono HB18.out.size))
  have HT9 := Lib.hid ((hb9.block _ (lt_of_block HT8.out)).trans HT8.out)
  clear hb9 t0 t1
  have t0 : w9.cell? ⟨w1.heap.size, 0, none⟩ = some (.slice (some ⟨b, o, none⟩) 3 c) := by rw [cell_of_heap' HT9.out]; rfl
  have t1 : w9.cell? ⟨w1.heap.size, 1, none⟩ = some (.slice ad 1 cd) := by rw [cell_of_heap' HT9.out]; rfl
  go_wp2_with fail
  go_ret
  exact ⟨rfl, HB9.out⟩
end Go.Proofs.YtdgcdjpjnhlihaaGreatDoor
