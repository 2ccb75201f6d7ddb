/-
  lacunaref19's action: call. The condition: no list is longer than 2 to the 24th.
-/
import Derived.Test.YtdgcdjpjnhlihaaGreatDoorMgTua
set_option linter.unusedVariables false
set_option linter.unusedSimpArgs false
namespace Go.Proofs.YtdgcdjpjnhlihaaGreatDoor
open Go.RowKit Go.Shelf

theorem shp5 {l : List By} (h : shp l = 5) : ∃ y z, l = [kCall, y, z] := by
  match l, h with
  | [w], h => simp only [shp] at h; split at h <;> first | (split at h <;> omega) | omega
  | [w, a], h => simp only [shp] at h; split at h <;> first | (split at h <;> omega) | omega
  | [w, a, c], h =>
    simp only [shp] at h
    split at h
    · rename_i e; subst e; exact ⟨a, c, rfl⟩
    · omega
theorem lt_call (s : St) (h : Hd) (at_ : Nat) (l : List (By × Nat)) : Lt (St.add h at_ { s with calls := l }) (({ s with many := s.many + 1, calls := l } : St).put h .nil .nil) (cntE s.many (0, 0) at_) := by
  unfold St.add St.count cntE
  by_cases hg : 1024 < s.many + 1
  · rw [if_pos hg]; exact (if_pos hg : (if 1024 < s.many + 1 then _ else _) = _) ▸ ⟨by decide, rfl⟩
  · rw [if_neg hg]; exact (if_neg hg : (if 1024 < s.many + 1 then _ else _) = _) ▸ ⟨rfl, rfl⟩
/-- One more call has been read. -/
theorem RdR.called {B q bx : Nat} {src : ByteArray} {s : St} {E : Nat × Nat} {col : Nat → Nat} {sv dv cv : Value} {w w2 : World} (hg : RdR B q bx src s E col sv dv cv w) {cs : List Value} {x : By} {at_ : Nat} {root : Bool} {va : Option Addr} {vl vc : Nat}
    (hcol : ∀ g, cv.ownBlock = some g → col g = 4) (hrow : CRowC s.calls cs)
    (hsz : w.heap.size ≤ w2.heap.size) (hbl : ∀ b, b < w.heap.size → some b ≠ cv.ownBlock → w2.heap[b]? = w.heap[b]?) {g2 cap2 : Nat}
    (hown : w2.ownsRow B 58 8 (.slice (some ⟨g2, 0, none⟩) (s.calls.length + 1) cap2) (s.calls.length + 1) (cs ++ [.int .u8 5, .int .i64 (at_ : Nat), .string ⟨#[]⟩, .bool root, .slice va vl vc, .string (mkB x), .slice none 0 0, .slice none 0 0])) (hat : cv.ownBlock = some g2 ∨ w.heap.size ≤ g2) :
    RdR B (q + 1) bx src { s with calls := s.calls ++ [(x, at_)] } E (dye col g2 4) sv dv (.slice (some ⟨g2, 0, none⟩) (s.calls.length + 1) cap2) (w2.setCell ⟨bx, 5, none⟩ (.slice (some ⟨g2, 0, none⟩) (s.calls.length + 1) cap2)) ∧
    Same (fun k => k ≠ 1 ∧ k ≠ 4) col (dye col g2 4) w (w2.setCell ⟨bx, 5, none⟩ (.slice (some ⟨g2, 0, none⟩) (s.calls.length + 1) cap2)) := by
  have hbxl := lt_of_block hg.hx
  have hS := same_grown (j := 5) (u := .slice (some ⟨g2, 0, none⟩) (s.calls.length + 1) cap2) hg.cx (by decide : (1 : Nat) ≠ 4) hcol hsz hbl hat
  have hx2 : w2.heap[bx]? = some (.cells (rrCells src sv dv s.many cv E) 96 (0, 0)) := (hbl bx hbxl (fun e => by have := hcol bx e.symm; rw [hg.cx] at this; cases this)).trans hg.hx
  have hne : g2 ≠ bx := by
    rintro rfl
    rcases hat with h1 | h1
    · have := hcol _ h1; rw [hg.cx] at this; cases this
    · omega
  have c0 : (fun k => k ≠ 1 ∧ k ≠ 4) 0 := ⟨by decide, by decide⟩
  obtain ⟨cs1, h1, h2⟩ := hg.st
  refine ⟨{
    bb := hg.bb
    cx := (dye_old (Ne.symm hne)).trans hg.cx
    hx := set_cells (j := 5) hx2 _
    st := ⟨cs1, h1.same hS ⟨by decide, by decide⟩, h2.same hS c0 (Nat.le_succ q) _ _ (fun i _ => ⟨by omega, by omega⟩)⟩
    df := hg.df.same hS c0 ⟨by decide, by decide⟩
    cl := ⟨cs ++ [.int .u8 5, .int .i64 (at_ : Nat), .string ⟨#[]⟩, .bool root, .slice va vl vc, .string (mkB x), .slice none 0 0, .slice none 0 0], ⟨by
      rw [List.length_append, List.length_singleton]
      exact own_set hown _ _ _ (fun e => hne (by simpa [Value.ownBlock] using e)), fun g hg' => by
      have : g2 = g := by simpa [Value.ownBlock] using hg'
      rw [← this]; exact dye_new _ _⟩, CRowC.app _ _ _ _ hrow ⟨root, va, vl, vc, [], rfl, rfl⟩⟩
    l1 := Nat.le_succ_of_le hg.l1
    l2 := Nat.le_succ_of_le hg.l2
    l3 := Nat.le_succ_of_le hg.l3
    l4 := by rw [List.length_append, List.length_singleton]; have := hg.l4; omega
    hB := Nat.le_trans hg.hB hS.1
    ol := fun b hb => (dye_old (by have := own_ge hown; omega)).trans (hg.ol b hb) }, hS⟩
set_option maxRecDepth 100000 in
set_option maxHeartbeats 8000000 in
theorem arm_5 (B q bx : Nat) (hq : q ≤ 16777212) (x : ByteArray) (hx : x.size ≤ 16777216) (at_ : Nat) (src : ByteArray) (s : St) (w : World) (h : RdN B q bx src s (0, 0) w) (hc : comment (bl x) = false) : (actMCap B q bx hq x hx at_ src s w h hc).1 5 := by
  unfold actMCap
  intro col dv cv WL HWL HA g c hc1 hc2 hl2 w1 LB HLB wa wc1 hw1 hw2 HG1 HS1 HB1 c1' K1 hK1 hu
  intros
  clear h hc
  obtain ⟨wy, wp, rfl⟩ := shp5 hu
  have HE0 : Hid (action (bl x) at_ s = callA wy wp at_ s) := HA.out.trans (actW_call wy wp at_ s)
  have hl : LB.length = 3 := by rw [← HLB.out]; rfl
  obtain ⟨b, o, rfl, hok, hcs⟩ := strs_at HS1.out (by rw [← HLB.out]; simp)
  obtain ⟨X0, hX0⟩ : ∃ X, mkB kCall = X := ⟨_, rfl⟩
  have d0 : w1.cell? ⟨b, o, none⟩ = some (.string X0) := hcs 0 _ (by rw [← HLB.out, ← hX0]; rfl)
  have b0 : bl X0 = kCall := by rw [← hX0]; exact bl_mkB _
  obtain ⟨X1, hX1⟩ : ∃ X, mkB wy = X := ⟨_, rfl⟩
  have d1 : w1.cell? ⟨b, o + 1, none⟩ = some (.string X1) := hcs 1 _ (by rw [← HLB.out, ← hX1]; rfl)
  have b1 : bl X1 = wy := by rw [← hX1]; exact bl_mkB _
  obtain ⟨X2, hX2⟩ : ∃ X, mkB wp = X := ⟨_, rfl⟩
  have d2 : w1.cell? ⟨b, o + 2, none⟩ = some (.string X2) := hcs 2 _ (by rw [← HLB.out, ← hX2]; rfl)
  have b2 : bl X2 = wp := by rw [← hX2]; exact bl_mkB _
  rw [hl]
  have hbl := hok.2.1
  have hcol0 : freshC col w.heap.size b = 0 := hok.1
  clear hcs hok
  have q1 : (X0.toList == [99, 97, 108, 108]) = true := by rw [tl_eq, b0]; exact rfl
  have hXs : X2.size ≤ 16777216 := by have h1 := HWL.out wp (by simp); rw [← b2] at h1; have h2 : (bl X2).length = X2.size := rfl; have h3 : (bl x).length = x.size := rfl; omega
  have hYs : X1.size ≤ 16777216 := by have h1 := HWL.out wy (by simp); rw [← b1] at h1; have h2 : (bl X1).length = X1.size := rfl; have h3 : (bl x).length = x.size := rfl; omega
  have PC := Lib.hid (pathR_calls X2 hXs w1)
  have NM := Lib.hid (fun w => nameR_calls X1 (by omega) w)
  rw [b2] at PC
  rw [b1] at NM
  have HB1w : B ≤ w1.heap.size := HG1.out.hB
  clear hu hl
  cases hr : wayB wp with
  | none =>
    have HE : Hid (action (bl x) at_ s = .err 190 at_) := by unfold Hid; rw [HE0.out]; unfold callA; rw [hr]
    clear HE0
    rw [hr] at PC
    go_upto_region 32 with (go_at_call 89; refine PC.out.mono ?_; rintro e w2 ⟨hb2, rfl⟩)
    have hg3 := (HG1.out.same (same_fresh (B := B) hb2) (fun _ _ _ => trivial) (Nat.le_refl q)).same (same_dyed w2 (.cells #[.bool false, .slice none 0 0] 56) 5) (fun _ _ _ => trivial) (Nat.le_refl q)
    have FC := Lib.hid (failR_calls B q bx 190 at_ src s (0, 0) _ _ _ _ _ hg3)
    have d1' : (w2.alloc (.cells #[.bool false, .slice none 0 0] 56)).cell? ⟨b, o + 1, none⟩ = some (.string X1) := (World.cell?_alloc_old w2 _ _ (Nat.ne_of_lt (Nat.lt_of_lt_of_le hbl hb2.size))).trans ((hb2.cell (p := ⟨b, o + 1, none⟩) hbl).trans d1)
    have HB3 := Lib.hid ((HB1.out.trans (hb2.mono HB1w)).alloc (Nat.le_trans HB1w hb2.size) (.cells #[.bool false, .slice none 0 0] 56))
    clear hg3 hb2 HG1 HS1 HLB HWL HA c1' hw1 hw2 hc1 hc2 hl2 PC
    go_wp2_with (go_at_call 34; refine (NM.out _).mono ?_; rintro e wn ⟨rfl, rfl⟩)
    refine FC.out.mono ?_
    rintro e w4 ⟨rfl, hb4, hs4, hg4⟩
    have HB4 := Lib.hid (HB3.out.trans hb4)
    have HG4 := Lib.hid hg4
    clear hb4 hs4 hg4 FC
    go_wp2_with fail
    first | go_end0 | skip
    rw [HE.out]
    exact ⟨rfl, HB4.out, s, (190, at_), ⟨_, _, _, _, HG4.out.more (by omega)⟩, by decide, rfl⟩
  | some p =>
    rw [hr] at PC
    go_upto_region 32 with (go_at_call 89; refine PC.out.mono ?_; rintro e w2 ⟨hb2, v, rfl, hv2⟩; obtain ⟨na, nc, rfl, -⟩ := id hv2)
    rw [List.length_map] at hv2
    generalize hNL : p.2.length = nl at hv2 ⊢
    clear hNL
    have SA := same_dyed (col := freshC (freshC col w.heap.size) w1.heap.size) w2 (.cells #[.bool p.1, .slice na nl nc] 56) 5
    have hg3 := (HG1.out.same (same_fresh (B := B) hb2) (fun _ _ _ => trivial) (Nat.le_refl q)).same SA (fun _ _ _ => trivial) (Nat.le_refl q)
    have hv3 := SA.strs trivial (hv2.mono (fun b hb => fresh_ok (col := freshC col w.heap.size) hb))
    have hP3 := heap_alloc_new w2 (.cells #[.bool p.1, .slice na nl nc] 56)
    have hc5 : dye (freshC (freshC col w.heap.size) w1.heap.size) w2.heap.size 5 w2.heap.size = 5 := dye_new _ _
    have HB3 := Lib.hid ((HB1.out.trans (hb2.mono HB1w)).alloc (Nat.le_trans HB1w hb2.size) (.cells #[.bool p.1, .slice na nl nc] 56))
    have hz3 : w2.heap.size < (w2.alloc (.cells #[.bool p.1, .slice na nl nc] 56)).heap.size := by simp
    have hdw : ∀ a : Addr, a.block < w1.heap.size → ∀ u, w1.cell? a = some u → (w2.alloc (.cells #[.bool p.1, .slice na nl nc] 56)).cell? a = some u := fun a ha u hu => (World.cell?_alloc_old w2 _ _ (Nat.ne_of_lt (Nat.lt_of_lt_of_le ha hb2.size))).trans ((hb2.cell ha).trans hu)
    have d1' := hdw ⟨b, o + 1, none⟩ hbl _ d1
    have hsz12 := hb2.size
    clear hv2 SA hb2 HG1 HS1 c1' PC
    have hcb : dye (freshC (freshC col w.heap.size) w1.heap.size) w2.heap.size 5 b ≠ 1 := by
      rw [dye_old (Nat.ne_of_lt (Nat.lt_of_lt_of_le hbl hsz12))]
      unfold freshC at hcol0 ⊢
      rw [if_pos hbl, hcol0]; decide
    generalize dye (freshC (freshC col w.heap.size) w1.heap.size) w2.heap.size 5 = col3 at *
    generalize hW3 : World.alloc w2 _ = w3 at *
    clear hW3
    generalize hP : w2.heap.size = PB at *
    clear hP
    cases hn : nameOk wy with
    | false =>
      have HE : Hid (action (bl x) at_ s = .err 190 at_) := by unfold Hid; rw [HE0.out]; unfold callA; rw [hr]; exact if_pos hn
      rw [hn] at NM
      have FC := Lib.hid (failR_calls B q bx 190 at_ src s (0, 0) _ _ _ _ _ hg3)
      clear hg3 hv3 hdw HE0 hr hn hP3
      go_wp2_with (go_at_call 34; refine (NM.out _).mono ?_; rintro e wn ⟨rfl, rfl⟩)
      refine FC.out.mono ?_
      rintro e w4 ⟨rfl, hb4, hs4, hg4⟩
      have HB4 := Lib.hid (HB3.out.trans hb4)
      have HG4 := Lib.hid hg4
      clear hb4 hs4 hg4 FC
      go_wp2_with fail
      first | go_end0 | skip
      rw [HE.out]
      exact ⟨rfl, HB4.out, s, (190, at_), ⟨_, _, _, _, HG4.out.more (by omega)⟩, by decide, rfl⟩
    | true =>
      have HE : Hid (action (bl x) at_ s = St.add (hdCall at_ wy p.1 p.2) at_ { s with calls := s.calls ++ [(wy, at_)] }) := by unfold Hid; rw [HE0.out]; unfold callA; rw [hr]; exact if_neg (by rw [hn]; decide)
      rw [hn] at NM
      have CC := Lib.hid (countM_calls B q bx at_ (by omega) src s (0, 0) _ _ _ _ _ hg3)
      have HV3 := Lib.hid hv3
      have hbl3 := lt_of_cell d1'
      have HD3 := Lib.hid d1'
      clear hg3 hv3 hdw HE0 hr hn
      go_wp2_with (go_at_call 34; refine (NM.out _).mono ?_; rintro e wn ⟨rfl, rfl⟩)
      refine CC.out.mono ?_
      rintro e w4 ⟨rfl, hb4, hs4, hg4⟩
      have hP4 : w4.heap[PB]? = _ := (hs4.2 PB hz3 (by rw [hc5]; decide)).2.trans hP3
      have x0 : w4.cell? ⟨PB, 0, none⟩ = some (.bool p.1) := by rw [cell_of_heap' hP4]; rfl
      have x1 : w4.cell? ⟨PB, 1, none⟩ = some (.slice na nl nc) := by rw [cell_of_heap' hP4]; rfl
      have hPl4 := lt_of_block hP4
      have e1 : w4.cell? ⟨b, o + 1, none⟩ = some (.string X1) := (World.cell?_of_block (w := w3) (hs4.2 b hbl3 hcb).2).trans HD3.out
      have hbl4 := lt_of_cell e1
      have x0a : ∀ ob, (w4.alloc ob).cell? ⟨PB, 0, none⟩ = some (.bool p.1) := fun ob => (World.cell?_alloc_old w4 _ _ (Nat.ne_of_lt hPl4)).trans x0
      have x1a : ∀ ob, (w4.alloc ob).cell? ⟨PB, 1, none⟩ = some (.slice na nl nc) := fun ob => (World.cell?_alloc_old w4 _ _ (Nat.ne_of_lt hPl4)).trans x1
      have e1a : ∀ ob, (w4.alloc ob).cell? ⟨b, o + 1, none⟩ = some (.string X1) := fun ob => (World.cell?_alloc_old w4 _ _ (Nat.ne_of_lt hbl4)).trans e1
      have HB4 := Lib.hid (HB3.out.trans hb4)
      have HV4 := Lib.hid (hs4.strs (by decide) HV3.out)
      have HG4 := Lib.hid hg4
      clear hs4 hb4 hg4 hP3 hP4 HV3 CC HD3 d1'
      go_upto_region 36 with (fail)
      go_region
      all_goals
        have SP := same_dyed (col := col3) w4 (.cells #[.int .u8 5, .int .i64 (at_ : Nat), .string ⟨#[]⟩, .bool p.1, .slice na nl nc, .string X1, .slice none 0 0, .slice none 0 0] 58) 5
        have hg5 := HG4.out.same SP (fun _ _ _ => trivial) (Nat.le_refl _)
        have hv5 := SP.strs trivial HV4.out
        have hP5 := heap_alloc_new w4 (.cells #[.int .u8 5, .int .i64 (at_ : Nat), .string ⟨#[]⟩, .bool p.1, .slice na nl nc, .string X1, .slice none 0 0, .slice none 0 0] 58)
        have hc55 : dye col3 w4.heap.size 5 w4.heap.size = 5 := dye_new _ _
        have HBA := Lib.hid (HB4.out.alloc HG4.out.hB (.cells #[.int .u8 5, .int .i64 (at_ : Nat), .string ⟨#[]⟩, .bool p.1, .slice na nl nc, .string X1, .slice none 0 0, .slice none 0 0] 58))
        have hp5 : w4.heap.size < (w4.alloc (.cells #[.int .u8 5, .int .i64 (at_ : Nat), .string ⟨#[]⟩, .bool p.1, .slice na nl nc, .string X1, .slice none 0 0, .slice none 0 0] 58)).heap.size := by simp
        clear SP x0 x1 x0a x1a e1 e1a HV4 HG4 HB4
        generalize dye col3 w4.heap.size 5 = col5 at *
        go_upto_region 37 with (fail)
        generalize hW : World.alloc w4 _ = W3 at *
        clear hW
        have HB3w : B ≤ W3.heap.size := hg5.hB
        obtain ⟨cs, ⟨hown, hcol⟩, hrow⟩ := hg5.cl
        obtain ⟨ca, cc, rfl⟩ : ∃ a k, cv = .slice a s.calls.length k := (show OwnC B col5 W3 4 58 8 cv s.calls.length cs from ⟨hown, hcol⟩).slice
        have c5 := hg5.cells.2.2.2.2.2.1
        have fz := hg5.cells.2.2.2.2.2.2.2.2
        have hbx3 := lt_of_block hg5.hx
        have c5a : ∀ ob, (W3.alloc ob).cell? ⟨bx, 5, none⟩ = some (.slice ca s.calls.length cc) := fun ob => (World.cell?_alloc_old W3 _ _ (Nat.ne_of_lt hbx3)).trans c5
        have pp := cell_of_heap' hP5
        have r00 : W3.cell? ⟨w4.heap.size, 0, none⟩ = some (.int .u8 5) := pp 0
        have r10 : W3.cell? ⟨w4.heap.size, 1, none⟩ = some (.int .i64 (at_ : Nat)) := pp 1
        have r20 : W3.cell? ⟨w4.heap.size, 2, none⟩ = some (.string ⟨#[]⟩) := pp 2
        have r30 : W3.cell? ⟨w4.heap.size, 3, none⟩ = some (.bool p.1) := pp 3
        have r40 : W3.cell? ⟨w4.heap.size, 4, none⟩ = some (.slice na nl nc) := pp 4
        have r50 : W3.cell? ⟨w4.heap.size, 5, none⟩ = some (.string X1) := pp 5
        have r60 : W3.cell? ⟨w4.heap.size, 6, none⟩ = some (.slice none 0 0) := pp 6
        have r70 : W3.cell? ⟨w4.heap.size, 7, none⟩ = some (.slice none 0 0) := pp 7
        clear pp
        have pa : ∀ ob j, (W3.alloc ob).cell? ⟨w4.heap.size, j, none⟩ = W3.cell? ⟨w4.heap.size, j, none⟩ := fun ob j => World.cell?_alloc_old W3 _ _ (Nat.ne_of_lt hp5)
        have r0 := fun ob => (pa ob 0).trans r00
        have r1 := fun ob => (pa ob 1).trans r10
        have r2 := fun ob => (pa ob 2).trans r20
        have r3 := fun ob => (pa ob 3).trans r30
        have r4 := fun ob => (pa ob 4).trans r40
        have r5 := fun ob => (pa ob 5).trans r50
        have r6 := fun ob => (pa ob 6).trans r60
        have r7 := fun ob => (pa ob 7).trans r70
        clear pa
        have hownA : ∀ o, (W3.alloc o).ownsRow B 58 8 (.slice ca s.calls.length cc) s.calls.length cs := fun o => World.ownsRow.alloc hown o
        have hcsl : cs.length = s.calls.length * 8 := hown.1
        have hnewsA : ∀ j u, ([.int .u8 0, .int .i64 0, .string ⟨#[]⟩, .bool false, .slice none 0 0, .string ⟨#[]⟩, .slice none 0 0, .slice none 0 0] : List Value)[j]? = some u → (W3.alloc (.cells #[.int .u8 0, .int .i64 0, .string ⟨#[]⟩, .bool false, .slice none 0 0, .string ⟨#[]⟩, .slice none 0 0, .slice none 0 0] 58)).cell? ((⟨W3.heap.size, 0, none⟩ : Addr).add j) = some u := by
          intro j u hj
          have hb := heap_alloc_new W3 (.cells #[.int .u8 0, .int .i64 0, .string ⟨#[]⟩, .bool false, .slice none 0 0, .string ⟨#[]⟩, .slice none 0 0, .slice none 0 0] 58)
          have hadd : (⟨W3.heap.size, 0, none⟩ : Addr).add j = ⟨W3.heap.size, j, none⟩ := by unfold Addr.add; split <;> simp_all
          rw [hadd, cell_of_heap' hb]
          simpa using hj
        have hone : ∀ u ∈ ([.int .u8 0, .int .i64 0, .string ⟨#[]⟩, .bool false, .slice none 0 0, .string ⟨#[]⟩, .slice none 0 0, .slice none 0 0] : List Value), u.oneCell' = true := by
          intro u hu
          simp only [List.mem_cons, List.not_mem_nil, or_false] at hu
          rcases hu with rfl | rfl | rfl | rfl | rfl | rfl | rfl | rfl <;> rfl
        obtain ⟨i0, hi, hz0, hz1, hz2⟩ := info_parts infoPart
        have hBw3 : B ≤ W3.heap.size + 1 := by omega
        have hnk : some bx ≠ (Value.slice ca s.calls.length cc).ownBlock := fun e => by have := hcol bx e.symm; rw [hg5.cx] at this; cases this
        have hcl4 : s.calls.length ≤ q + 1 := hg5.l4
        have hLM : s.calls.length + 1 ≤ maxLen := by unfold maxLen; omega
        have hLB : (s.calls.length + 1) * 128 ≤ 140737488355328 := by omega
        have hll : (s.calls.length : Int) < ((s.calls.length + 1 : Nat) : Int) := by omega
        have hll2 : (s.calls.length : Int) < (s.calls.length : Int) + 1 := by omega
        have kc : ∀ (w3 : World) (g2 cap2 : Nat), w3.ownsRow B 58 8 (.slice (some ⟨g2, 0, none⟩) (s.calls.length + 1) cap2) (s.calls.length + 1) (cs ++ [.int .u8 0, .int .i64 0, .string ⟨#[]⟩, .bool false, .slice none 0 0, .string ⟨#[]⟩, .slice none 0 0, .slice none 0 0]) → ∀ j, w3.cell? ⟨g2, s.calls.length * 8 + j, none⟩ = ([.int .u8 0, .int .i64 0, .string ⟨#[]⟩, .bool false, .slice none 0 0, .string ⟨#[]⟩, .slice none 0 0, .slice none 0 0] : List Value)[j]? ∨ 8 ≤ j := by
          intro w3 g2 cap2 h j
          rcases Nat.lt_or_ge j 8 with hj | hj
          · left
            obtain ⟨u, hu⟩ : ∃ u, ([.int .u8 0, .int .i64 0, .string ⟨#[]⟩, .bool false, .slice none 0 0, .string ⟨#[]⟩, .slice none 0 0, .slice none 0 0] : List Value)[j]? = some u := ⟨_, List.getElem?_eq_getElem (by simpa using hj)⟩
            rw [hu]
            exact (own_cells h).1 _ _ (by rw [List.getElem?_append_right (by omega), hcsl]; simpa using hu)
          · exact .inr hj
        have KC := Lib.hid kc
        clear kc
        go_region_law (refine step_append_lies _ (by rfl) _ _ _ (by rfl) B 58 i0 _ 8 128 Tryz.underlying22 hi hz0 hz1 hz2 (by rfl) (by decide) (.slice ca s.calls.length cc) s.calls.length cs (by rfl) (by exact hownA _) ⟨W3.heap.size, 0, none⟩ 1 1 [.int .u8 0, .int .i64 0, .string ⟨#[]⟩, .bool false, .slice none 0 0, .string ⟨#[]⟩, .slice none 0 0, .slice none 0 0] (by rfl) (by rfl) (by exact hnewsA) hone (by decide) hLM hLB (by simp; omega) (W3.heap.size + 1) (by simp) ?_; intro g2 cap2 w5 hown2 hgrow2 hat2 hlt2; have hng : ¬ bx = g2 := (fun e => by rcases hat2 with h | h; exact hnk (by rw [e]; exact h.symm); omega); have hng2 : ¬ g2 = bx := (fun e => hng e.symm); have hx2 := (hgrow2.block bx (by simp; omega) hnk).trans ((Below.heap_alloc _ _ _ hbx3).trans hg5.hx); have s5 : w5.cell? ⟨bx, 5, none⟩ = some (.slice ca s.calls.length cc) := (by rw [cell_of_heap' hx2]; rfl); have z5 := frozen_cells hx2 5; have kz := (own_cells hown2).2; have k0 : w5.cell? ⟨g2, s.calls.length * 8, none⟩ = some (.int .u8 0) := (KC.out w5 g2 cap2 hown2 0).resolve_right (by decide); have k1 : w5.cell? ⟨g2, s.calls.length * 8 + 1, none⟩ = some (.int .i64 0) := (KC.out w5 g2 cap2 hown2 1).resolve_right (by decide); have k2 : w5.cell? ⟨g2, s.calls.length * 8 + 2, none⟩ = some (.string ⟨#[]⟩) := (KC.out w5 g2 cap2 hown2 2).resolve_right (by decide); have k3 : w5.cell? ⟨g2, s.calls.length * 8 + 3, none⟩ = some (.bool false) := (KC.out w5 g2 cap2 hown2 3).resolve_right (by decide); have k4 : w5.cell? ⟨g2, s.calls.length * 8 + 4, none⟩ = some (.slice none 0 0) := (KC.out w5 g2 cap2 hown2 4).resolve_right (by decide); have k5 : w5.cell? ⟨g2, s.calls.length * 8 + 5, none⟩ = some (.string ⟨#[]⟩) := (KC.out w5 g2 cap2 hown2 5).resolve_right (by decide); have k6 : w5.cell? ⟨g2, s.calls.length * 8 + 6, none⟩ = some (.slice none 0 0) := (KC.out w5 g2 cap2 hown2 6).resolve_right (by decide); have k7 : w5.cell? ⟨g2, s.calls.length * 8 + 7, none⟩ = some (.slice none 0 0) := (KC.out w5 g2 cap2 hown2 7).resolve_right (by decide))
        all_goals
          clear s5 z5 k0 k1 k2 k3 k4 k5 k6 k7 kz hx2
          try rw [set9_swap _ _ _ _ _ _ _ _ _ _ _ _ _ _ hng]
          obtain ⟨hown4, hbl5, hsz5⟩ := own_last8 hcsl hown2 (.int .u8 5) (.int .i64 (at_ : Nat)) (.string ⟨#[]⟩) (.bool p.1) (.slice na nl nc) (.string X1) (.slice none 0 0) (.slice none 0 0)
          have hgr : (W3.alloc (.cells #[.int .u8 0, .int .i64 0, .string ⟨#[]⟩, .bool false, .slice none 0 0, .string ⟨#[]⟩, .slice none 0 0, .slice none 0 0] 58)).grownBy w5 (Value.slice ca s.calls.length cc).ownBlock := ⟨hgrow2.os, hgrow2.tape, hgrow2.output, hgrow2.size, hgrow2.block⟩
          have hgB2 : B ≤ g2 := (World.ownsRow.lt hown2 g2 rfl).1
          have HB5 := Lib.hid ((HBA.out.alloc HB3w (.cells #[.int .u8 0, .int .i64 0, .string ⟨#[]⟩, .bool false, .slice none 0 0, .string ⟨#[]⟩, .slice none 0 0, .slice none 0 0] 58)).grown hgr (by simp; omega) (fun k hk => (World.ownsRow.lt hown k hk).1))
          have HB6 := Lib.hid (((((((((HB5.out.setCell (p := ⟨g2, s.calls.length * 8, none⟩) hgB2 (.int .u8 5)).setCell (p := ⟨g2, s.calls.length * 8 + 1, none⟩) hgB2 (.int .i64 (at_ : Nat))).setCell (p := ⟨g2, s.calls.length * 8 + 2, none⟩) hgB2 (.string ⟨#[]⟩)).setCell (p := ⟨g2, s.calls.length * 8 + 3, none⟩) hgB2 (.bool p.1)).setCell (p := ⟨g2, s.calls.length * 8 + 4, none⟩) hgB2 (.slice na nl nc)).setCell (p := ⟨g2, s.calls.length * 8 + 5, none⟩) hgB2 (.string X1)).setCell (p := ⟨g2, s.calls.length * 8 + 6, none⟩) hgB2 (.slice none 0 0)).setCell (p := ⟨g2, s.calls.length * 8 + 7, none⟩) hgB2 (.slice none 0 0)))
          have hbl6 : ∀ b, b < W3.heap.size → some b ≠ (Value.slice ca s.calls.length cc).ownBlock → w5.heap[b]? = W3.heap[b]? := fun b hb hn => (hgr.block b (by simp; omega) hn).trans (Below.heap_alloc _ _ _ hb)
          have hsz6 : W3.heap.size ≤ w5.heap.size := by have := hgr.size; simp at this; omega
          generalize hW4 : World.setCell (World.setCell (World.setCell (World.setCell (World.setCell (World.setCell (World.setCell (World.setCell w5 _ _) _ _) _ _) _ _) _ _) _ _) _ _) _ _ = W4 at *
          have hcl := hg5.called (w2 := W4) (x := wy) (at_ := at_) (root := p.1) (va := na) (vl := nl) (vc := nc) hcol hrow (by rw [hsz5]; exact hsz6)
            (fun b hb hn => (hbl5 b (fun e => by
              rcases hat2 with h | h
              · exact hn (by rw [e]; exact h.symm)
              · omega)).trans (hbl6 b hb hn)) (by rw [hX1]; exact hown4) (hat2.imp id (fun e => by omega))
          obtain ⟨hg6, hS6⟩ := hcl
          have HB7 := Lib.hid (HB6.out.setCell (p := ⟨bx, 5, none⟩) hg5.bb (.slice (some ⟨g2, 0, none⟩) (s.calls.length + 1) cap2))
          generalize hW6 : World.setCell W4 _ _ = W6 at *
          have hP6 := (hS6.2 w4.heap.size hp5 (by rw [hc55]; exact ⟨by decide, by decide⟩)).2.trans hP5
          have hv6 := hS6.strs ⟨by decide, by decide⟩ hv5
          have AD : Hid (Calls Tryz.prog 44 #[.pointer (some ⟨bx, 0, none⟩), .agg #[.int .u8 5, .int .i64 (at_ : Nat), .string ⟨#[]⟩, .bool p.1, .slice na nl nc, .string X1, .slice none 0 0, .slice none 0 0]] W6 _) :=
            addM_calls B (q + 1 + 1) bx (by omega) src { s with many := s.many + 1, calls := s.calls ++ [(wy, at_)] } (cntE s.many (0, 0) at_) ⟨5, at_, ⟨#[]⟩, p.1, p.2.map mkB, X1⟩ .nil .nil _ _ _ _ (.slice na nl nc) (.slice none 0 0) (.slice none 0 0) W6 hg6 hv6 (Parts.nil _ _) (Parts.nil _ _)
          have pp := cell_of_heap' hP6
          have y0 : W6.cell? ⟨w4.heap.size, 0, none⟩ = some (.int .u8 5) := pp 0
          have y1 : W6.cell? ⟨w4.heap.size, 1, none⟩ = some (.int .i64 (at_ : Nat)) := pp 1
          have y2 : W6.cell? ⟨w4.heap.size, 2, none⟩ = some (.string ⟨#[]⟩) := pp 2
          have y3 : W6.cell? ⟨w4.heap.size, 3, none⟩ = some (.bool p.1) := pp 3
          have y4 : W6.cell? ⟨w4.heap.size, 4, none⟩ = some (.slice na nl nc) := pp 4
          have y5 : W6.cell? ⟨w4.heap.size, 5, none⟩ = some (.string X1) := pp 5
          have y6 : W6.cell? ⟨w4.heap.size, 6, none⟩ = some (.slice none 0 0) := pp 6
          have y7 : W6.cell? ⟨w4.heap.size, 7, none⟩ = some (.slice none 0 0) := pp 7
          clear pp
          clear hown4 hbl5 hsz5 HB5 HB6 hbl6 hsz6 hW4 hW6 hS6 hown2 hgrow2 hgr hat2 hlt2 hng hng2 hP6 hv6 hg6 hP5 hg5 hv5 hownA hown hcol hrow hnewsA c5a r0 r1 r2 r3 r4 r5 r6 r7 hcsl hone r00 r10 r20 r30 r40 r50 r60 r70 c5 fz
          go_wp2_with (go_at_call 44; refine AD.out.mono ?_; rintro e w8 ⟨rfl, hb8, hr8⟩)
          first | go_end0 | skip
          rw [HE.out]
          refine ⟨rfl, HB7.out.trans hb8, _, _, hr8.more (by omega), ?_⟩
          have hlc := lt_call s ⟨5, at_, ⟨#[]⟩, p.1, p.2.map mkB, X1⟩ at_ (s.calls ++ [(wy, at_)])
          rw [← hX1] at hlc ⊢
          exact hlc
end Go.Proofs.YtdgcdjpjnhlihaaGreatDoor
