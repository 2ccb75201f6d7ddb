/-
  tmpl.Parse behind its loop. The condition: valid's contract is given; MaxLen holds some number.
-/
import Derived.Test.YtepcpgdfbaklfaaGreatDoorTpeM
import Derived.Deep.RegionHeld3
set_option linter.unusedVariables false
namespace Go.Proofs.YtepcpgdfbaklfaaGreatDoor
open Go.RowKit Go.Shelf

/-- What a round over the calls hands on. -/
def CaR (w0 : World) (st : St) (v : Value) (wr : World) : Prop :=
  ∃ j : Nat, v = .int .i64 (j : Nat) ∧ j ≤ st.calls.length ∧ Below w0.heap.size w0 wr ∧ Hid (noneAt st.defs (st.calls.drop j) = noneAt st.defs st.calls)
theorem frM_kids {B q lv fb : Nat} {col : Nat → Nat} {w : World} {f : Fr} (h : FrM B col w q lv fb f) : B ≤ fb ∧ ∃ vn vk kv, w.heap[fb]? = some (.cells (frCells f vn vk kv) 100 (0, 0)) ∧ Kids B col w (6 + 2 * lv) kv f.kids := by
  obtain ⟨h1, h2, h3, vn, vk, kv, h4, h5, h6, h7⟩ := h
  exact ⟨h1, vn, vk, kv, h4, h7⟩
/-- The way out where the body returns, in the world behind its stores. -/
theorem parse_end {w w1 wr : World} {r : Rs Tm} {a : Act} {st : St} {q bx lv : Nat} {col : Nat → Nat} {bs : List Nat} {sv kv dv cv : Value} (hs1 : w.heap.size + 2 ≤ w1.heap.size) (HB1 : Below w.heap.size w w1) (HBR : Below w1.heap.size w1 wr)
    (hT : wr.heap[w.heap.size]? = some (.cells #[.slice none 0 0, .slice none 0 0] 25 (0, 0))) (hE : wr.heap[w.heap.size + 1]? = some (.cells #[.nilIface] 64 (0, 0)))
    (hg : RdG w1.heap.size q bx st col bs sv dv cv wr) (hK : Kids w1.heap.size col wr (6 + 2 * lv) kv st.top.kids) (hd : a.defers = closeD w.heap.size (w.heap.size + 1)) (h2 : a.tmps.getD 2 undef = .pointer (some ⟨w.heap.size, 0, none⟩))
    (h3 : a.tmps.getD 3 undef = .pointer (some ⟨w.heap.size + 1, 0, none⟩)) (hr : r = .ok ⟨st.top.kids, st.defs⟩) :
    bodyPostD Tryz.prog Tryz.f26 (ParseU w r) .ret a ((((wr.setCell ⟨bx, 1, none⟩ kv).setCell ⟨w.heap.size, 0, none⟩ kv).setCell ⟨w.heap.size, 1, none⟩ dv).setCell ⟨w.heap.size + 1, 0, none⟩ .nilIface) := by
  have hbb := hg.bb
  have n1 : w.heap.size ≠ bx := by omega
  have n2 : w.heap.size + 1 ≠ bx := by omega
  have hbl : ∀ b, b ≠ bx → b ≠ w.heap.size → b ≠ w.heap.size + 1 → ((((wr.setCell ⟨bx, 1, none⟩ kv).setCell ⟨w.heap.size, 0, none⟩ kv).setCell ⟨w.heap.size, 1, none⟩ dv).setCell ⟨w.heap.size + 1, 0, none⟩ .nilIface).heap[b]? = wr.heap[b]? := fun b m1 m2 m3 => by
    rw [Below.heap_setCell _ _ _ _ m3, Below.heap_setCell _ _ _ _ m2, Below.heap_setCell _ _ _ _ m2, Below.heap_setCell _ _ _ _ m1]
  have hT4 : ((((wr.setCell ⟨bx, 1, none⟩ kv).setCell ⟨w.heap.size, 0, none⟩ kv).setCell ⟨w.heap.size, 1, none⟩ dv).setCell ⟨w.heap.size + 1, 0, none⟩ .nilIface).heap[w.heap.size]? = some (.cells #[kv, dv] 25 (0, 0)) := by
    rw [Below.heap_setCell _ _ _ _ (by show w.heap.size ≠ w.heap.size + 1; omega)]
    exact set_cells (j := 1) (set_cells (j := 0) ((Below.heap_setCell wr ⟨bx, 1, none⟩ kv _ n1).trans hT) kv) dv
  have hE4 : ((((wr.setCell ⟨bx, 1, none⟩ kv).setCell ⟨w.heap.size, 0, none⟩ kv).setCell ⟨w.heap.size, 1, none⟩ dv).setCell ⟨w.heap.size + 1, 0, none⟩ .nilIface).heap[w.heap.size + 1]? = some (.cells #[.nilIface] 64 (0, 0)) := by
    refine set_cells (j := 0) (cs := #[.nilIface]) ?_ .nilIface
    rw [Below.heap_setCell _ _ _ _ (by show w.heap.size + 1 ≠ w.heap.size; omega), Below.heap_setCell _ _ _ _ (by show w.heap.size + 1 ≠ w.heap.size; omega), Below.heap_setCell _ _ _ _ n2]
    exact hE
  have hB4 : Below w.heap.size w ((((wr.setCell ⟨bx, 1, none⟩ kv).setCell ⟨w.heap.size, 0, none⟩ kv).setCell ⟨w.heap.size, 1, none⟩ dv).setCell ⟨w.heap.size + 1, 0, none⟩ .nilIface) :=
    ((((HB1.trans (HBR.mono (by omega))).setCell (by show w.heap.size ≤ bx; omega) _).setCell (Nat.le_refl _) _).setCell (Nat.le_refl _) _).setCell (Nat.le_succ _) _
  have hsz : ((((wr.setCell ⟨bx, 1, none⟩ kv).setCell ⟨w.heap.size, 0, none⟩ kv).setCell ⟨w.heap.size, 1, none⟩ dv).setCell ⟨w.heap.size + 1, 0, none⟩ .nilIface).heap.size = wr.heap.size := by simp [World.setCell]
  generalize ((((wr.setCell ⟨bx, 1, none⟩ kv).setCell ⟨w.heap.size, 0, none⟩ kv).setCell ⟨w.heap.size, 1, none⟩ dv).setCell ⟨w.heap.size + 1, 0, none⟩ .nilIface) = W4 at *
  refine parse_return hd h2 h3 hT4 hE4 ?_
  rw [hr]
  have hcol : ∀ g, kv.ownBlock = some g → col g = 6 + 2 * lv := by
    obtain ⟨cs, ⟨-, h⟩, -⟩ := hK
    exact h
  have hnew : ∀ g, kv.ownBlock = some g → w1.heap.size ≤ g := fun g hg' => by
    rcases Nat.lt_or_ge g w1.heap.size with h | h
    · have h1 := hg.ol g h; have h5 := hcol g hg'; omega
    · exact h
  have hold : ∀ b, fade col kv b = 0 ∨ fade col kv b = 3 → w.heap.size ≤ b := fun b hb => by
    rcases Nat.lt_or_ge b w1.heap.size with h | h
    · have h1 := hg.ol b h
      have h5 : fade col kv b = col b := if_neg (fun e => by have := hnew b e; omega)
      omega
    · omega
  have hS : Same (fun c => c ≠ 1 ∧ c ≠ 6 + 2 * lv) col (fade col kv) wr W4 := ⟨by rw [hsz]; exact Nat.le_refl _, fun b hb hc => ⟨fade_old hcol hc.2, hbl b (fun e => hc.1 (by rw [e]; exact hg.cx)) (fun e => hc.1 (hg.ol b (by omega))) (fun e => hc.1 (hg.ol b (by omega)))⟩⟩
  have c0 : (fun c => c ≠ 1 ∧ c ≠ 6 + 2 * lv) 0 := ⟨by omega, by omega⟩
  have hP := kids_faded hK hS c0 (fun g hg' => hbl g (fun e => by have := hcol g hg'; rw [e, hg.cx] at this; omega) (fun e => by have := hnew g hg'; omega) (fun e => by have := hnew g hg'; omega))
  have hD := (hg.df.same hS c0 ⟨by omega, by omega⟩).defs
  exact ⟨hB4, kv, dv, rfl, hP.mono (fun b hb => ⟨hold b (.inl hb.1), hb.2⟩), hD.mono (fun b hb => ⟨hold b hb.1, hb.2⟩)⟩
set_option maxRecDepth 100000 in
set_option maxHeartbeats 4000000 in
theorem parse_a (bad : By → Option Nat) (s : ByteArray) (hs : s.size ≤ 16384) (w : World) (hsh : Gd w) (hb : bad (bl s) = none) (VA : ∀ w, Gd w → Calls Tryz.prog 44 #[.string s] w (ValidR w none)) : ∀ u, (parseCap bad s hs w hsh hb VA).1 u := by
  unfold parseCap
  intro u w1 hs1 HB1 HT1 HE1 hsh1 bx RR HPB wq u6 u7 u8 u9 u10 u11 u27 u28 u29 u30 u31 u32 u33 u34 u35 u36 u37 u38 u39 u40 u41 u42 u43 u44 u45 u46 u47 u48 u49 u50 u51 u52 u53 u54 u55 u56 u57 u58 u59 u60 u61 u62 u63 u64 u65 u66 u67 u68 u69 u70 u71 k st HBR K1 hK1 K0 hK0 HRR2 HRD3
  clear hb VA
  have HPF : Hid (parseB bad (bl s) = finish s.size st) := by unfold Hid; rw [HPB.out, HRR2.out]; rfl
  clear HPB HRR2
  obtain ⟨col, bs, sv, dv, cv, hg⟩ := HRD3.out
  clear HRD3
  obtain ⟨c0, c1, c2, c3, c4, fz⟩ := hg.cells
  obtain ⟨fb, bs', g, c, rfl, hl, rfl, hc1, hc2, hcg, hF, -, hct⟩ := hg.top
  have hl2 := hg.l2
  by_cases hr : st.rest = []
  · have hr0 : st.rest.length = 0 := by rw [hr]; rfl
    have HFI : Hid (finish s.size st = match noneAt st.defs st.calls with | some p => .err 195 p | none => .ok ⟨st.top.kids, st.defs⟩) := if_neg (by simp [hr])
    have tl : ¬ (1 : Int) < (st.rest.length : Int) + 1 := by omega
    obtain ⟨ca, cc, rfl⟩ := (show ∃ a k, cv = .slice a st.calls.length k by obtain ⟨cs, h, -⟩ := hg.cl; exact h.slice)
    have HG := Lib.hid hg
    have HF := Lib.hid hF
    have HR0 := Lib.hid hr0
    clear hr hr0 hg hF
    have hdl : st.defs.length ≤ 140737488351232 := by have := HG.out.l3; omega
    have hcn : st.calls.length ≤ 3 * s.size + 1 := HG.out.l4
    have hbxl := lt_of_block HG.out.hx
    go_wp2_with fail
    go_loopw [87] (fun v87 wq' => CaR wq st v87 wq') (fun v87 _ => st.calls.length - (intOf v87).toNat)
    case atStart => exact ⟨0, rfl, Nat.zero_le _, Below.refl _ _, rfl⟩
    case round =>
      obtain ⟨j, rfl, hj, hbj, HN⟩ := hrel
      have HBJ := Lib.hid hbj
      clear hbj
      by_cases hlt : j < st.calls.length
      · obtain ⟨cx, hcx⟩ : ∃ cx, st.calls[j]? = some cx := ⟨_, List.getElem?_eq_getElem hlt⟩
        have hlt' : (j : Int) < (st.calls.length : Int) := by omega
        obtain ⟨cs, ⟨hown, hcol⟩, hrow⟩ := HG.out.cl
        obtain ⟨root, va, vl, vc, k0, k1, k2, k3, k4, k5, k6, k7⟩ := CRowC.at _ _ j cx hcx hrow
        obtain ⟨gc, cap, hcv, -, hgl, -, -, hcell⟩ := ownsRow.elems hown (by omega)
        injection hcv with e1 e2 e3
        subst e1; subst e3
        have cj : ∀ i u, cs[j * 8 + i]? = some u → wr.cell? ⟨gc, j * 8 + i, none⟩ = some u := fun i u hu => (HBJ.out.cell (p := ⟨gc, j * 8 + i, none⟩) hgl).trans (hcell _ _ hu)
        have p0 : wr.cell? ⟨gc, j * 8, none⟩ = some (.int .u8 5) := cj 0 _ k0
        have p1 := cj 1 _ k1
        have p2 := cj 2 _ k2
        have p3 := cj 3 _ k3
        have p4 := cj 4 _ k4
        have p5 := cj 5 _ k5
        have p6 := cj 6 _ k6
        have p7 := cj 7 _ k7
        obtain ⟨X, hX⟩ : ∃ X, mkB cx.1 = X := ⟨_, rfl⟩
        rw [hX] at p5
        have c2j := (HBJ.out.cell (p := ⟨bx, 2, none⟩) hbxl).trans c2
        have hbxj : bx < wr.heap.size := Nat.lt_of_lt_of_le hbxl HBJ.out.size
        have c2a : ∀ ob, (wr.alloc ob).cell? ⟨bx, 2, none⟩ = some dv := fun ob => (World.cell?_alloc_old _ _ _ (Nat.ne_of_lt hbxj)).trans c2j
        have hXb : bl X = cx.1 := by rw [← hX]; rfl
        have DE := Lib.hid (fun (W : World) (hb : Below wq.heap.size wq W) => defined_calls (OkD col W) st.defs hdl X dv W
          ((HG.out.same (q' := 3 * s.size + 1) (show Same (fun _ => True) col col wq W from ⟨hb.size, fun b h _ => ⟨rfl, hb.block b h⟩⟩) (fun _ => trivial) (Nat.le_refl _)).df.defs) (fun b hb => hb.2))
        rw [hXb] at DE
        have hdj : st.calls.drop j = cx :: st.calls.drop (j + 1) := by
          rw [List.drop_eq_getElem_cons hlt]
          rw [List.getElem?_eq_getElem hlt] at hcx
          injection hcx with e
          rw [e]
        have hat : (cx.2 : Int) = ((cx.2 : Nat) : Int) := rfl
        clear hown hcol hrow k0 k1 k2 k3 k4 k5 k6 k7 hcell cj hcx hX hXb
        cases hd : hasDef st.defs cx.1 with
        | true =>
          rw [hd] at DE
          have HN2 : Hid (noneAt st.defs (st.calls.drop (j + 1)) = noneAt st.defs st.calls) := by
            unfold Hid
            rw [← HN.out, hdj, noneAt, if_pos hd]
          clear hd hdj
          go_wp2_with fail
          have hPw := heap_alloc_new wr (.cells #[.int .u8 5, .int .i64 (cx.2 : Nat), .string ⟨#[]⟩, .bool root, .slice va vl vc, .string X, .slice none 0 0, .slice none 0 0] 56)
          have hbw := HBJ.out.trans ((Below.refl wr.heap.size wr).alloc (Nat.le_refl _) (.cells #[.int .u8 5, .int .i64 (cx.2 : Nat), .string ⟨#[]⟩, .bool root, .slice va vl vc, .string X, .slice none 0 0, .slice none 0 0] 56) |>.mono HBJ.out.size)
          have c2w := c2a (.cells #[.int .u8 5, .int .i64 (cx.2 : Nat), .string ⟨#[]⟩, .bool root, .slice va vl vc, .string X, .slice none 0 0, .slice none 0 0] 56)
          generalize hW2 : wr.alloc _ = W2
          rw [hW2] at hPw hbw c2w
          have HBW2 := Lib.hid hbw
          have q5 : W2.cell? ⟨wr.heap.size, 5, none⟩ = some (.string X) := by rw [cell_of_heap' hPw]; rfl
          have HPW := Lib.hid hPw
          have hltw : wr.heap.size < W2.heap.size := lt_of_block hPw
          clear hW2 hbw hPw p0 p1 p2 p3 p4 p5 p6 p7 c2a
          refine wp_region_noPanic ?_
          go_region_with (go_at_call 48; refine (DE.out _ (HBW2.out.trans ((Sl.drew _).below _))).mono ?_; rintro e w2 ⟨rfl, hb2⟩)
          all_goals
            refine NoPanic.normal ?_
            have HB2 := Lib.hid (HBW2.out.trans (((Sl.drew W2).below wq.heap.size).trans (hb2.mono HBW2.out.size)))
            clear hb2
            go_wp2_with fail
            go_roundw
            case rel => exact ⟨j + 1, by go_num, by omega, HB2.out, HN2⟩
            case measure => simp [intOf]; omega
        | false =>
          rw [hd] at DE
          have HN2 : Hid (noneAt st.defs st.calls = some cx.2) := by
            unfold Hid
            rw [← HN.out, hdj, noneAt, if_neg (by rw [hd]; decide)]
          have HE : Hid (finish s.size st = .err 195 cx.2) := by unfold Hid; rw [HFI.out, HN2.out]
          clear hd hdj
          go_wp2_with fail
          have hPw := heap_alloc_new wr (.cells #[.int .u8 5, .int .i64 (cx.2 : Nat), .string ⟨#[]⟩, .bool root, .slice va vl vc, .string X, .slice none 0 0, .slice none 0 0] 56)
          have hbw := HBJ.out.trans ((Below.refl wr.heap.size wr).alloc (Nat.le_refl _) (.cells #[.int .u8 5, .int .i64 (cx.2 : Nat), .string ⟨#[]⟩, .bool root, .slice va vl vc, .string X, .slice none 0 0, .slice none 0 0] 56) |>.mono HBJ.out.size)
          have c2w := c2a (.cells #[.int .u8 5, .int .i64 (cx.2 : Nat), .string ⟨#[]⟩, .bool root, .slice va vl vc, .string X, .slice none 0 0, .slice none 0 0] 56)
          generalize hW2 : wr.alloc _ = W2
          rw [hW2] at hPw hbw c2w
          have HBW2 := Lib.hid hbw
          have q5 : W2.cell? ⟨wr.heap.size, 5, none⟩ = some (.string X) := by rw [cell_of_heap' hPw]; rfl
          have HPW := Lib.hid hPw
          have hltw : wr.heap.size < W2.heap.size := lt_of_block hPw
          clear hW2 hbw hPw p0 p1 p2 p3 p4 p5 p6 p7 c2a
          refine wp_region_noPanic ?_
          go_region_with (go_at_call 48; refine (DE.out _ (HBW2.out.trans ((Sl.drew _).below _))).mono ?_; rintro e w2 ⟨rfl, hb2⟩)
          all_goals
            refine NoPanic.normal ?_
            have HB2 := Lib.hid (HBW2.out.trans (((Sl.drew W2).below wq.heap.size).trans (hb2.mono HBW2.out.size)))
            have hP2 := (hb2.block wr.heap.size hltw).trans (((Sl.drew W2).below (wr.heap.size + 1)).block _ (Nat.lt_succ_self _) |>.trans HPW.out)
            have q1 : w2.cell? ⟨wr.heap.size, 1, none⟩ = some (.int .i64 (cx.2 : Nat)) := by rw [cell_of_heap' hP2]; rfl
            clear hb2 hP2
            go_wp2_with fail
            exact parse_out 195 cx.2 hs1 HB1.out HT1.out HE1.out (HBR.out.trans (HB2.out.mono (by have := HBR.out.size; omega))) rfl rfl rfl (by rw [HPF.out, HE.out])
      · have hge : ¬ (j : Int) < (st.calls.length : Int) := by omega
        have HFO : Hid (finish s.size st = .ok ⟨st.top.kids, st.defs⟩) := by
          have := HN.out
          rw [show st.calls.drop j = [] from List.drop_eq_nil_of_le (by omega)] at this
          unfold Hid
          rw [HFI.out, ← this]
          rfl
        obtain ⟨kb, vn, vk, kv, kh, hK⟩ := frM_kids HF.out
        obtain ⟨ka, kc, rfl⟩ := hK.slice
        obtain ⟨da, dc, rfl⟩ := (show ∃ a k, dv = .slice a st.defs.length k by obtain ⟨cs, h, -⟩ := HG.out.df; exact h.slice)
        have HK := Lib.hid hK
        have hgl := lt_of_cell hct
        have hfl := lt_of_block kh
        have d0 : wr.cell? ⟨bx, 0, none⟩ = some (.slice (some ⟨g, 0, none⟩) 1 c) := by rw [HBJ.out.cell (p := ⟨bx, 0, none⟩) hbxl, c0, HR0.out]
        have dg : wr.cell? ⟨g, 0, none⟩ = some (.pointer (some ⟨fb, 0, none⟩)) := by rw [HBJ.out.cell (p := ⟨g, 0, none⟩) hgl]; have := hct; rwa [HR0.out] at this
        have kh2 := (HBJ.out.block fb hfl).trans kh
        have dk : wr.cell? ⟨fb, 13, none⟩ = some (.slice ka st.top.kids.len kc) := by rw [cell_of_heap' kh2]; rfl
        have bh2 := (HBJ.out.block bx hbxl).trans HG.out.hx
        have th2 := (HBJ.out.block w.heap.size (by have := HBR.out.size; omega)).trans ((HBR.out.block _ (by omega)).trans HT1.out)
        have eh2 := (HBJ.out.block (w.heap.size + 1) (by have := HBR.out.size; omega)).trans ((HBR.out.block _ (by omega)).trans HE1.out)
        have hbb := HG.out.bb
        have n1 : w.heap.size ≠ bx := by omega
        have n2 : w.heap.size + 1 ≠ bx := by omega
        have HBH := Lib.hid bh2
        have HTH := Lib.hid th2
        have HEH := Lib.hid eh2
        have d1 : wr.cell? ⟨bx, 1, none⟩ = some (.slice none 0 0) := by rw [cell_of_heap' bh2]; rfl
        have d2 : wr.cell? ⟨bx, 2, none⟩ = some (.slice da st.defs.length dc) := by rw [cell_of_heap' bh2]; rfl
        have t0 : wr.cell? ⟨w.heap.size, 0, none⟩ = some (.slice none 0 0) := by rw [cell_of_heap' th2]; rfl
        have t1 : wr.cell? ⟨w.heap.size, 1, none⟩ = some (.slice none 0 0) := by rw [cell_of_heap' th2]; rfl
        have e0 : wr.cell? ⟨w.heap.size + 1, 0, none⟩ = some .nilIface := by rw [cell_of_heap' eh2]; rfl
        have f1 : wr.frozen? ⟨bx, 1, none⟩ = false := by rw [frozen_cells bh2]
        have f2 : wr.frozen? ⟨w.heap.size, 0, none⟩ = false := by rw [frozen_cells th2]
        have f3 : wr.frozen? ⟨w.heap.size, 1, none⟩ = false := by rw [frozen_cells th2]
        have f4 : wr.frozen? ⟨w.heap.size + 1, 0, none⟩ = false := by rw [frozen_cells eh2]
        have HRJ := Lib.hid (HBR.out.trans (HBJ.out.mono HBR.out.size))
        have HSJ : Hid (Same (fun _ => True) col col wq wr) := ⟨HBJ.out.size, fun b h _ => ⟨rfl, HBJ.out.block b h⟩⟩
        clear c0 c1 c2 c3 c4 fz hct kh kh2 bh2 th2 eh2 hK
        go_wp2_with fail
        exact parse_end hs1 HB1.out HRJ.out HTH.out HEH.out (HG.out.same HSJ.out (fun _ => trivial) (Nat.le_refl _)) (HK.out.same HSJ.out trivial trivial) rfl rfl rfl (by rw [HPF.out, HFO.out])
  · have HE : Hid (finish s.size st = .err 192 s.size) := if_pos hr
    have tl : (1 : Int) < (st.rest.length : Int) + 1 := by have := List.length_pos_iff.2 hr; omega
    clear hr hg hF
    go_wp2_with fail
    exact parse_out 192 s.size hs1 HB1.out HT1.out HE1.out HBR.out rfl rfl rfl (by rw [HPF.out, HE.out])
end Go.Proofs.YtepcpgdfbaklfaaGreatDoor
