/- The contract of the reader's define. The condition: the words take at most 2 to the 24th bytes; no list is longer than 2 to the 24th. -/
import Derived.Test.YtepcpgdfbaklfaaGreatDoorMcTma
import Derived.Test.YtepcpgdfbaklfaaGreatDoorMcLibv
set_option linter.unusedVariables false
namespace Go.Proofs.YtepcpgdfbaklfaaGreatDoor
open Go.RowKit Go.Shelf
theorem DRowC.drow {ok : Nat → Prop} {w : World} : ∀ (t : List Df) (cs : List Value) (b o : Nat), DRowC ok w t cs → (∀ j u, cs[j]? = some u → w.cell? ⟨b, o + j, none⟩ = some u) → DRow ok w t b o := by
 intro t
 induction t with
 | nil => intro cs b o _ _; exact trivial
 | cons d r ih =>
   rintro cs b o ⟨v, cs', rfl, h1, h4⟩ hc
   refine ⟨hc 0 _ rfl, hc 1 _ rfl, ⟨v, hc 2 _ rfl, h1⟩, ih cs' b (o + 3) h4 (fun j u hj => ?_)⟩
   have := hc (3 + j) u (by rw [List.getElem?_append_right (by simp)]; simpa using hj)
   rwa [show o + (3 + j) = o + 3 + j by omega] at this
def OkD (col : Nat → Nat) (w : World) (b : Nat) : Prop := (col b = 0 ∨ col b = 3) ∧ b < w.heap.size
theorem DRow.monoD {ok ok' : Nat → Prop} {w : World} {l : List Df} {b o : Nat} (h : DRow ok w l b o) (hk : ∀ b, ok b → ok' b) : DRow ok' w l b o := DRow.mono hk l b o h
theorem DefsM.defs {B : Nat} {col : Nat → Nat} {w : World} {dv : Value} {l : List Df} (h : DefsM B col w dv l) : Defs (OkD col w) w dv l := by
 obtain ⟨cs, ⟨h1, h2⟩, h3⟩ := h
 rcases h1.2 with ⟨rfl, hn⟩ | ⟨g, cap, cur, rfl, hB, hg, hle, hcap, hsz, ht⟩
 · cases l with
   | nil => exact Defs.nil _ _
   | cons d r => simp at hn
 · refine ⟨_, _, rfl, hle, hcap, fun _ => ⟨g, 0, rfl, ⟨.inr (h2 g rfl), lt_of_block hg⟩, (DRowC.drow l cs g 0 h3 (fun j u hj => ?_)).monoD (fun b hb => ⟨.inl hb.1, hb.2.1⟩)⟩⟩
   rw [Nat.zero_add, cell_of_heap' hg, ← Array.getElem?_toList]
   rw [← ht, List.getElem?_take] at hj
   split at hj
   · exact hj
   · cases hj
def defA (x : By) (at_ : Nat) (s : St) : Rs St :=
 if nameOk x = false ∨ s.rest ≠ [] then .err 190 at_
 else if hasDef s.defs x then .err 194 at_
 else s.begin ⟨6, at_, false, [], x, false, .nil, .nil⟩ at_
set_option maxRecDepth 100000 in
set_option maxHeartbeats 1000000 in
theorem define_calls (B q bx : Nat) (hq : q ≤ 16777216) (w0 x : By) (hx : x.length ≤ 16777216) (at_ : Nat) (hat : at_ ≤ 16777216) (s : St) (col : Nat → Nat) (bs : List Nat) (sv dv cv wv : Value) (w : World) (hg : RdG B q bx s col bs sv dv cv w)
 (hws : Strs (Ok col w) w wv [mkB w0, mkB x]) :
 Calls Tryz.prog 84 #[.pointer (some ⟨bx, 0, none⟩), wv, .int .i64 (at_ : Nat)] w (RsPost B q bx w (defA x at_ s)) := by
 obtain ⟨c0, c1, c2, c3, c4, fz⟩ := hg.cells
 obtain ⟨a, c, rfl, h1, h2, h3⟩ := hws
 obtain ⟨b, o, rfl, hok, hcs⟩ := h3 (by simp)
 have d1 : w.cell? ⟨b, o + 1, none⟩ = some (.string (mkB x)) := hcs 1 _ rfl
 obtain ⟨fb, bs', g, k, -, hl, rfl, hc1, hc2, -, -, -, -⟩ := hg.top
 have NM := Lib.hid (name_calls (mkB x) (by rw [mkB_size]; omega) w)
 rw [bl_mk] at NM
 have hdl := hg.l3
 have hl2 := hg.l2
 have DE := Lib.hid (fun (w1 : World) (hb : Below w.heap.size w w1) => defined_calls (OkD col w1) s.defs (by omega) (mkB x) dv w1
  ((hg.same (q' := q) (show Same (fun _ => True) col col w w1 from ⟨hb.size, fun b h _ => ⟨rfl, hb.block b h⟩⟩) (fun _ => trivial) (Nat.le_refl q)).df.defs) (fun b hb => hb.2))
 rw [bl_mk] at DE
 obtain ⟨X, hX⟩ : ∃ X, mkB x = X := ⟨_, rfl⟩
 rw [hX] at d1 NM DE
 have HG := Lib.hid hg
 have HBw : Hid (B ≤ w.heap.size) := hg.hB
 have h2' : (1 : Int) < (2 : Nat) := by omega
 have HXX := Lib.hid hX
 have hbl := lt_of_cell d1
 have hbxl := lt_of_block hg.hx
 clear hg hX hcs h3 h1 c1 c3 c4 hdl
 cases hn : nameOk x with
 | false =>
   have HE : Hid (defA x at_ s = .err 190 at_) := if_pos (.inl hn)
   rw [hn] at NM
   clear hn
   go_enter Tryz.func84, Tryz.ntmps84
   go_wp2_with fail
   refine NM.out.mono ?_
   rintro e w1 ⟨rfl, hb1⟩
   have HB1 := Lib.hid (hb1.mono HBw.out)
   clear hb1
   go_wp2_with fail
   rw [HE.out]
   exact ⟨rfl, HB1.out, rfl⟩
 | true =>
   rw [hn] at NM
   by_cases h0 : s.rest = []
   · have t1 : ¬ (1 : Int) < (s.rest.length : Int) + 1 := by rw [h0]; simp
     cases hd : hasDef s.defs x with
     | true =>
       have HE : Hid (defA x at_ s = .err 194 at_) := by unfold Hid defA; rw [if_neg (by simp [hn, h0]), if_pos hd]
       rw [hd] at DE
       clear hn hd h0
       go_enter Tryz.func84, Tryz.ntmps84
       go_wp2_with fail
       refine NM.out.mono ?_
       rintro e w1 ⟨rfl, hb1⟩
       have HB1 := Lib.hid hb1
       have e0 := (hb1.cell (p := ⟨bx, 0, none⟩) hbxl).trans c0
       have e2 := (hb1.cell (p := ⟨bx, 2, none⟩) hbxl).trans c2
       have ed := (hb1.cell (p := ⟨b, o + 1, none⟩) hbl).trans d1
       clear hb1
       go_wp2_with fail
       go_region_with (go_at_call 48; refine (DE.out _ (HB1.out.trans ((Sl.drew _).below _))).mono ?_; rintro e w2 ⟨rfl, hb2⟩)
       all_goals
        have HB2 := Lib.hid (((HB1.out.mono HBw.out).trans ((Sl.drew w1).below B)).trans (hb2.mono (Nat.le_trans HBw.out HB1.out.size)))
        clear hb2
        go_wp2_with fail
        rw [HE.out]
        exact ⟨rfl, HB2.out, rfl⟩
     | false =>
       obtain ⟨F, hF⟩ : ∃ F : Fr, (⟨6, at_, false, [], x, false, .nil, .nil⟩ : Fr) = F := ⟨_, rfl⟩
       have HE : Hid (defA x at_ s = s.begin F at_) := by unfold Hid defA; rw [if_neg (by simp [hn, h0]), if_neg (by simp [hd]), hF]
       have HFH := Lib.hid hF
       rw [hd] at DE
       clear hn hd h0 hF
       go_enter Tryz.func84, Tryz.ntmps84
       go_wp2_with fail
       refine NM.out.mono ?_
       rintro e w1 ⟨rfl, hb1⟩
       have HB1 := Lib.hid hb1
       have e0 := (hb1.cell (p := ⟨bx, 0, none⟩) hbxl).trans c0
       have e2 := (hb1.cell (p := ⟨bx, 2, none⟩) hbxl).trans c2
       have ed := (hb1.cell (p := ⟨b, o + 1, none⟩) hbl).trans d1
       clear hb1
       go_wp2_with fail
       go_region_with (go_at_call 48; refine (DE.out _ (HB1.out.trans ((Sl.drew _).below _))).mono ?_; rintro e w2 ⟨rfl, hb2⟩)
       all_goals
        have hb3 := (HB1.out.trans ((Sl.drew w1).below w.heap.size)).trans (hb2.mono HB1.out.size)
        have q1 := (hb3.cell (p := ⟨b, o + 1, none⟩) hbl).trans d1
        have HB3 := Lib.hid (hb3.mono HBw.out)
        have hg2 := HG.out.same (q' := q) (show Same (fun _ => True) col col w w2 from ⟨hb3.size, fun b h _ => ⟨rfl, hb3.block b h⟩⟩) (fun _ => trivial) (Nat.le_refl q)
        have HBw2 : Hid (B ≤ w2.heap.size) := hg2.hB
        have BG := Lib.hid (fun (o : Obj) (h : o = .cells (frCells F (.slice none 0 0) (.slice none 0 0) (.slice none 0 0)) 100 (0, 0)) =>
         begin_calls B q bx w2.heap.size at_ hat s _ bs _ dv cv (.slice none 0 0) F (w2.alloc o) (hg2.same (same_dyed w2 o (5 + 2 * (s.rest.length + 1))) (fun _ => trivial) (Nat.le_refl q)) hg2.hB (dye_new _ _)
          (by rw [h]; exact heap_alloc_new w2 _) (by rw [← HFH.out]; exact Strs.nil _ _) (by rw [← HFH.out]) (by rw [← HFH.out]))
        clear hb2 hb3 hg2
        go_wp2_with fail
        refine (BG.out _ (by rw [← HFH.out, ← HXX.out]; rfl)).mono ?_
        rintro e w4 ⟨hb4, h4⟩
        have HB4 := Lib.hid ((HB3.out.alloc HBw2.out _).trans hb4)
        clear hb4 BG
        cases hc : s.begin F at_ with
        | ok s3 =>
          rw [hc] at h4
          obtain ⟨rfl, h5⟩ := h4
          have H5 := Lib.hid h5
          have HC := Lib.hid hc
          clear h5 hc
          go_wp2_with fail
          go_end0
          rw [HE.out, HC.out]
          exact ⟨HB4.out, rfl, H5.out⟩
        | err ee ii =>
          rw [hc] at h4
          have h5 : e = .panicked [{ v := .iface 84 (.agg #[.int .i64 (ee : Nat), .int .i64 (ii : Nat)]), recovered := false }] := h4
          subst h5
          have HC := Lib.hid hc
          clear h4 hc
          go_wp2_with fail
          rw [HE.out, HC.out]
          exact ⟨rfl, HB4.out, rfl⟩
   · have HE : Hid (defA x at_ s = .err 190 at_) := if_pos (.inr h0)
     have t1 : (1 : Int) < (s.rest.length : Int) + 1 := by have := List.length_pos_iff.2 h0; omega
     clear hn h0
     go_enter Tryz.func84, Tryz.ntmps84
     go_wp2_with fail
     refine NM.out.mono ?_
     rintro e w1 ⟨rfl, hb1⟩
     have HB1 := Lib.hid (hb1.mono HBw.out)
     have e0 := (hb1.cell (p := ⟨bx, 0, none⟩) hbxl).trans c0
     clear hb1
     go_wp2_with fail
     rw [HE.out]
     exact ⟨rfl, HB1.out, rfl⟩
end Go.Proofs.YtepcpgdfbaklfaaGreatDoor
