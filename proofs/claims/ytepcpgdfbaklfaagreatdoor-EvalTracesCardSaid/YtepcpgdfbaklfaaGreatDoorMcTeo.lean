/- The contract of the reader's end at an if or a range, and where nothing is to be ended. The condition: no list is longer than 2 to the 24th. -/
import Derived.Test.YtepcpgdfbaklfaaGreatDoorMcTen
set_option linter.unusedVariables false
namespace Go.Proofs.YtepcpgdfbaklfaaGreatDoor
open Go.RowKit Go.Shelf
theorem end_none (B q bx at_ : Nat) (hat : at_ ≤ 16777216) (s : St) (wv : Value) (w : World) (h : RdM B q bx s w) (hr : s.rest = []) :
 Calls Tryz.prog 86 #[.pointer (some ⟨bx, 0, none⟩), wv, .int .i64 (at_ : Nat)] w (RsPost B q bx w (s.endA at_)) := by
 obtain ⟨col, bs, sv, dv, cv, hg⟩ := h
 obtain ⟨c0, -, -, -, -, fz⟩ := hg.cells
 obtain ⟨fb, bs', g, c, -, -, rfl, hc1, hc2, -, -, -, -⟩ := hg.top
 have HE : Hid (s.endA at_ = .err 192 at_) := by unfold Hid St.endA; rw [hr]
 have t1 : ((s.rest.length : Int) + 1 == 1) = true := by rw [hr]; rfl
 clear hr hg
 go_enter Tryz.func86, Tryz.ntmps86
 go_wp2_with fail
 rw [HE.out]
 exact ⟨rfl, Below.refl _ _, rfl⟩
set_option maxRecDepth 100000 in
set_option maxHeartbeats 4000000 in
theorem end_if (B q bx at_ : Nat) (hq : q ≤ 16777216) (hat : at_ ≤ 16777216) (f f2 : Fr) (r : List Fr) (defs : List Df) (many : Nat) (calls : List (By × Nat)) (hk6 : f.kind ≠ 6) (wv : Value) (w : World) (h : RdM B q bx ⟨f, f2 :: r, defs, many, calls⟩ w) :
 Calls Tryz.prog 86 #[.pointer (some ⟨bx, 0, none⟩), wv, .int .i64 (at_ : Nat)] w (RsPost B (q + 1) bx w (St.endA at_ ⟨f, f2 :: r, defs, many, calls⟩)) := by
 obtain ⟨col, bs, sv, dv, cv, hg⟩ := h
 obtain ⟨c0, -, -, -, -, fz⟩ := hg.cells
 obtain ⟨fb, bs', g, c, rfl, hl, rfl, hc1, hc2, hcg, hF, -, hct⟩ := hg.top
 obtain ⟨hfb, hcf, hkl, vn, vk, kv, hfh, hfn, hfk, hK⟩ := hF
 obtain ⟨ka, kc, rfl⟩ := hK.slice
 obtain ⟨va, vc, rfl, -⟩ := hfn
 obtain ⟨pa, pc, rfl, -⟩ := hfk
 have hl2 : r.length + 1 ≤ 64 := hg.l2
 replace c0 : w.cell? ⟨bx, 0, none⟩ = some (.slice (some ⟨g, 0, none⟩) (r.length + 1 + 1) c) := c0
 have TP := Lib.hid (top_cells bx g (r.length + 1) fb c w hl2 hc1 hc2 c0 hct)
 replace hc1 : r.length + 1 + 1 ≤ c := hc1
 have HC := Lib.hid (closed_of hg hk6 hfh)
 have f6 : w.cell? ⟨fb, 6, none⟩ = some (.slice pa f.fst.len pc) := by rw [cell_of_heap' hfh]; rfl
 have f7 : w.cell? ⟨fb, 7, none⟩ = some (.slice none 0 0) := by rw [cell_of_heap' hfh]; rfl
 have f11 : w.cell? ⟨fb, 11, none⟩ = some (.bool false) := by rw [cell_of_heap' hfh]; show some (Value.bool (f.kind == 6)) = _; rw [beq_eq_false_iff_ne.2 hk6]
 have f12 : w.cell? ⟨fb, 12, none⟩ = some (.bool f.els) := by rw [cell_of_heap' hfh]; rfl
 have f13 : w.cell? ⟨fb, 13, none⟩ = some (.slice ka f.kids.len kc) := by rw [cell_of_heap' hfh]; rfl
 have fzf := frozen_cells hfh
 have hne1 : bx ≠ fb := fun e => by have := hg.cx; rw [e, hcf] at this; omega
 have HBB : Hid (B ≤ bx) := hg.bb
 have HFB : Hid (B ≤ fb) := hfb
 have t1 : ((r.length : Int) + 1 + 1 == 1) = false := by rw [beq_eq_false_iff_ne]; omega
 have wn : IntKind.i64.wrap ((r.length : Int) + 1 + 1 - 1) = (r.length : Int) + 1 := by rw [IntWalk.i64_in _ (by omega)]; omega
 have wn2 : IntKind.i64.wrap ((r.length : Int) + 1 + 1 + -1) = (r.length : Int) + 1 := by rw [IntWalk.i64_in _ (by omega)]; omega
 have HE : Hid (St.endA at_ ⟨f, f2 :: r, defs, many, calls⟩ = .ok ((⟨f2, r, defs, many, calls⟩ : St).put (hdWay f.kind f.pos f.root f.names) (if f.els then f.fst else f.kids) (if f.els then f.kids else .nil))) := if_neg hk6
 clear hg hfh hct hkl hK hcf hfb
 cases he : f.els with
 | false =>
   rw [he] at f12 HE
   have HC1 := Lib.hid (HC.out.1 he)
   clear HC he
   go_enter Tryz.func86, Tryz.ntmps86
   go_wp2_with fail
   refine TP.out.mono ?_
   rintro e w1 ⟨rfl, rfl⟩
   go_wp2_with fail
   go_region
   all_goals
    go_wp2_with fail
    generalize hW : World.setCell (World.setCell _ _ _) _ _ = W3
    rw [hW] at HC1
    have HB2 : Below B w W3 := by rw [← hW]; exact ((Below.refl B w).setCell HBB.out _).setCell HFB.out _
    clear hW TP f6 f7 f11 f12 f13 fzf c0 fz
    obtain ⟨col3, va3, vc3, ka3, kc3, ea3, ec3, hg3, hn3, hk3, he3, hcl3, hlt3, hcol3⟩ := HC1.out
    clear HC1
    obtain ⟨c0, -, -, -, -, fz⟩ := hg3.cells
    obtain ⟨fb2, bs2, rfl, -, -⟩ := hg3.fr
    obtain ⟨⟨hfb2, hcf2, hkl2, vn2, vk2, kv2, hfh2, hfn2, hfk2, hK2⟩, hS2, hct2⟩ := hg3.top'
    replace c0 : W3.cell? ⟨bx, 0, none⟩ = some (.slice (some ⟨g, 0, none⟩) (r.length + 1) c) := c0
    replace hct2 : W3.cell? ⟨g, r.length, none⟩ = some (.pointer (some ⟨fb2, 0, none⟩)) := hct2
    replace hcf2 : col3 fb2 = 5 + 2 * r.length := hcf2
    replace hkl2 : f2.kids.len ≤ q := hkl2
    have hbx3 := lt_of_block hg3.hx
    have hfb3 := lt_of_block hfh2
    have hgl3 := lt_of_cell hct2
    have f13 : W3.cell? ⟨fb2, 13, none⟩ = some kv2 := by rw [cell_of_heap' hfh2]; rfl
    have fzf := frozen_cells hfh2
    have c0a : ∀ o, (W3.alloc o).cell? ⟨bx, 0, none⟩ = some (.slice (some ⟨g, 0, none⟩) (r.length + 1) c) := fun o => (World.cell?_alloc_old W3 _ _ (Nat.ne_of_lt hbx3)).trans c0
    have cta : ∀ o, (W3.alloc o).cell? ⟨g, r.length, none⟩ = some (.pointer (some ⟨fb2, 0, none⟩)) := fun o => (World.cell?_alloc_old W3 _ _ (Nat.ne_of_lt hgl3)).trans hct2
    have p0 := hcl3 0 _ rfl
    have p1 := hcl3 1 _ rfl
    have p2 : W3.cell? ⟨fb, 2, none⟩ = some (.string ⟨#[]⟩) := hcl3 2 _ rfl
    have p3 := hcl3 3 _ rfl
    have p4 := hcl3 4 _ rfl
    have p5 : W3.cell? ⟨fb, 5, none⟩ = some (.string ⟨#[]⟩) := hcl3 5 _ rfl
    have p6 := hcl3 6 _ rfl
    have p7 := hcl3 7 _ rfl
    obtain ⟨cs, ⟨hown, hcol⟩, hrow⟩ := hK2
    replace hcol : ∀ g, kv2.ownBlock = some g → col3 g = 6 + 2 * r.length := hcol
    have hownA : ∀ o, (W3.alloc o).ownsRow B 56 8 kv2 f2.kids.len cs := fun o => World.ownsRow.alloc hown o
    have hnewsA : ∀ j u, (hdCells (hdWay f.kind f.pos f.root f.names) (.slice va3 f.names.length vc3) (.slice ka3 f.kids.len kc3) (.slice ea3 Pt.nil.len ec3))[j]? = some u → (W3.alloc (.cells #[.int .u8 (f.kind : Nat), .int .i64 (f.pos : Nat), .string ⟨#[]⟩, .bool f.root, .slice va3 f.names.length vc3, .string ⟨#[]⟩, .slice ka3 f.kids.len kc3, .slice ea3 Pt.nil.len ec3] 56)).cell? ((⟨W3.heap.size, 0, none⟩ : Addr).add j) = some u := by
     intro j u hj
     have hb := heap_alloc_new W3 (.cells #[.int .u8 (f.kind : Nat), .int .i64 (f.pos : Nat), .string ⟨#[]⟩, .bool f.root, .slice va3 f.names.length vc3, .string ⟨#[]⟩, .slice ka3 f.kids.len kc3, .slice ea3 Pt.nil.len ec3] 56)
     have hadd : (⟨W3.heap.size, 0, none⟩ : Addr).add j = ⟨W3.heap.size, j, none⟩ := by unfold Addr.add; split <;> simp_all
     rw [hadd, cell_of_heap' hb]
     have hj2 : (#[.int .u8 (f.kind : Nat), .int .i64 (f.pos : Nat), .string ⟨#[]⟩, .bool f.root, .slice va3 f.names.length vc3, .string ⟨#[]⟩, .slice ka3 f.kids.len kc3, .slice ea3 Pt.nil.len ec3] : Array Value).toList[j]? = some u := hj
     simpa using hj2
    have hone : ∀ u ∈ (hdCells (hdWay f.kind f.pos f.root f.names) (.slice va3 f.names.length vc3) (.slice ka3 f.kids.len kc3) (.slice ea3 Pt.nil.len ec3)), u.oneCell' = true := by
     intro u hu
     simp only [hdCells, List.mem_cons, List.not_mem_nil, or_false] at hu
     rcases hu with rfl | rfl | rfl | rfl | rfl | rfl | rfl | rfl <;> rfl
    obtain ⟨i0, hi, hz0, hz1, hz2⟩ := info_parts infoPart
    have hBw : B ≤ W3.heap.size + 1 := by have := hg3.hB; omega
    have hnk : some fb2 ≠ kv2.ownBlock := fun e => by have := hcol fb2 e.symm; omega
    have hLM : f2.kids.len + 1 ≤ maxLen := by unfold maxLen; omega
    have hLB : (f2.kids.len + 1) * 128 ≤ 140737488355328 := by omega
    have hl3 : r.length ≤ 64 := by omega
    have hc3 : r.length + 1 ≤ c := by omega
    clear hcl3
    go_region_law (first | (go_simp; go_at_call 77; refine (top_cells bx g r.length fb2 c _ hl3 hc3 hc2 (by first | exact c0 | exact c0a _) (by first | exact hct2 | exact cta _)).mono ?_; rintro e wt ⟨rfl, rfl⟩) | (refine step_append_lies _ (by rfl) _ _ _ (by rfl) B 56 i0 _ 8 128 Tryz.underlying22 hi hz0 hz1 hz2 (by rfl) (by decide) kv2 f2.kids.len cs (by rfl) (by exact hownA _) ⟨W3.heap.size, 0, none⟩ 1 1 (hdCells (hdWay f.kind f.pos f.root f.names) (.slice va3 f.names.length vc3) (.slice ka3 f.kids.len kc3) (.slice ea3 Pt.nil.len ec3)) (by rfl) (by rfl) (by exact hnewsA) hone (by decide) hLM hLB (by simp; omega) (W3.heap.size + 1) (by simp) ?_; intro g2 cap2 w2 hown2 hgrow2 hat2 hlt2; have hfh3 := (hgrow2.block fb2 (by simp; omega) hnk).trans ((Below.heap_alloc _ _ _ hfb3).trans hfh2); have s13 : w2.cell? ⟨fb2, 13, none⟩ = some kv2 := (by rw [cell_of_heap' hfh3]; rfl); have z13 := frozen_cells hfh3 13))
    all_goals
     have hgr : (W3.alloc (.cells #[.int .u8 (f.kind : Nat), .int .i64 (f.pos : Nat), .string ⟨#[]⟩, .bool f.root, .slice va3 f.names.length vc3, .string ⟨#[]⟩, .slice ka3 f.kids.len kc3, .slice ea3 Pt.nil.len ec3] 56)).grownBy w2 kv2.ownBlock := ⟨hgrow2.os, hgrow2.tape, hgrow2.output, hgrow2.size, hgrow2.block⟩
     clear hfh3 s13 z13 hgrow2
     have hsz2 : W3.heap.size ≤ w2.heap.size := by have := hgr.size; simp at this; omega
     have hbl2 : ∀ b, b < W3.heap.size → some b ≠ kv2.ownBlock → w2.heap[b]? = W3.heap[b]? := fun b hb hn => (hgr.block b (by simp; omega) hn).trans (Below.heap_alloc _ _ _ hb)
     have hF := hg3.appended hfb2 hcf2 hkl2 hfh2 hfn2 hfk2 hS2 hcol hrow hn3 hk3 he3 hsz2 hbl2 hown2 (hat2.imp id (fun e => by omega))
     have hB3 : Below B w (w2.setCell ⟨fb2, 13, none⟩ (.slice (some ⟨g2, 0, none⟩) (f2.kids.len + 1) cap2)) := ((HB2.alloc hg3.hB _).grown hgr (by simp; omega) (fun k hk => (World.ownsRow.lt hown k hk).1)).setCell hfb2 _
     go_end0
     rw [HE.out]
     exact ⟨hB3, rfl, hF⟩
 | true =>
   rw [he] at f12 HE
   have HC1 := Lib.hid (HC.out.2 he)
   clear HC he
   go_enter Tryz.func86, Tryz.ntmps86
   go_wp2_with fail
   refine TP.out.mono ?_
   rintro e w1 ⟨rfl, rfl⟩
   go_wp2_with fail
   go_region
   all_goals
    go_wp2_with fail
    generalize hW : World.setCell (World.setCell _ _ _) _ _ = W3
    rw [hW] at HC1
    have HB2 : Below B w W3 := by rw [← hW]; exact ((Below.refl B w).setCell HBB.out _).setCell HFB.out _
    clear hW TP f6 f7 f11 f12 f13 fzf c0 fz
    obtain ⟨col3, va3, vc3, ka3, kc3, ea3, ec3, hg3, hn3, hk3, he3, hcl3, hlt3, hcol3⟩ := HC1.out
    clear HC1
    obtain ⟨c0, -, -, -, -, fz⟩ := hg3.cells
    obtain ⟨fb2, bs2, rfl, -, -⟩ := hg3.fr
    obtain ⟨⟨hfb2, hcf2, hkl2, vn2, vk2, kv2, hfh2, hfn2, hfk2, hK2⟩, hS2, hct2⟩ := hg3.top'
    replace c0 : W3.cell? ⟨bx, 0, none⟩ = some (.slice (some ⟨g, 0, none⟩) (r.length + 1) c) := c0
    replace hct2 : W3.cell? ⟨g, r.length, none⟩ = some (.pointer (some ⟨fb2, 0, none⟩)) := hct2
    replace hcf2 : col3 fb2 = 5 + 2 * r.length := hcf2
    replace hkl2 : f2.kids.len ≤ q := hkl2
    have hbx3 := lt_of_block hg3.hx
    have hfb3 := lt_of_block hfh2
    have hgl3 := lt_of_cell hct2
    have f13 : W3.cell? ⟨fb2, 13, none⟩ = some kv2 := by rw [cell_of_heap' hfh2]; rfl
    have fzf := frozen_cells hfh2
    have c0a : ∀ o, (W3.alloc o).cell? ⟨bx, 0, none⟩ = some (.slice (some ⟨g, 0, none⟩) (r.length + 1) c) := fun o => (World.cell?_alloc_old W3 _ _ (Nat.ne_of_lt hbx3)).trans c0
    have cta : ∀ o, (W3.alloc o).cell? ⟨g, r.length, none⟩ = some (.pointer (some ⟨fb2, 0, none⟩)) := fun o => (World.cell?_alloc_old W3 _ _ (Nat.ne_of_lt hgl3)).trans hct2
    have p0 := hcl3 0 _ rfl
    have p1 := hcl3 1 _ rfl
    have p2 : W3.cell? ⟨fb, 2, none⟩ = some (.string ⟨#[]⟩) := hcl3 2 _ rfl
    have p3 := hcl3 3 _ rfl
    have p4 := hcl3 4 _ rfl
    have p5 : W3.cell? ⟨fb, 5, none⟩ = some (.string ⟨#[]⟩) := hcl3 5 _ rfl
    have p6 := hcl3 6 _ rfl
    have p7 := hcl3 7 _ rfl
    obtain ⟨cs, ⟨hown, hcol⟩, hrow⟩ := hK2
    replace hcol : ∀ g, kv2.ownBlock = some g → col3 g = 6 + 2 * r.length := hcol
    have hownA : ∀ o, (W3.alloc o).ownsRow B 56 8 kv2 f2.kids.len cs := fun o => World.ownsRow.alloc hown o
    have hnewsA : ∀ j u, (hdCells (hdWay f.kind f.pos f.root f.names) (.slice va3 f.names.length vc3) (.slice ka3 f.fst.len kc3) (.slice ea3 f.kids.len ec3))[j]? = some u → (W3.alloc (.cells #[.int .u8 (f.kind : Nat), .int .i64 (f.pos : Nat), .string ⟨#[]⟩, .bool f.root, .slice va3 f.names.length vc3, .string ⟨#[]⟩, .slice ka3 f.fst.len kc3, .slice ea3 f.kids.len ec3] 56)).cell? ((⟨W3.heap.size, 0, none⟩ : Addr).add j) = some u := by
     intro j u hj
     have hb := heap_alloc_new W3 (.cells #[.int .u8 (f.kind : Nat), .int .i64 (f.pos : Nat), .string ⟨#[]⟩, .bool f.root, .slice va3 f.names.length vc3, .string ⟨#[]⟩, .slice ka3 f.fst.len kc3, .slice ea3 f.kids.len ec3] 56)
     have hadd : (⟨W3.heap.size, 0, none⟩ : Addr).add j = ⟨W3.heap.size, j, none⟩ := by unfold Addr.add; split <;> simp_all
     rw [hadd, cell_of_heap' hb]
     have hj2 : (#[.int .u8 (f.kind : Nat), .int .i64 (f.pos : Nat), .string ⟨#[]⟩, .bool f.root, .slice va3 f.names.length vc3, .string ⟨#[]⟩, .slice ka3 f.fst.len kc3, .slice ea3 f.kids.len ec3] : Array Value).toList[j]? = some u := hj
     simpa using hj2
    have hone : ∀ u ∈ (hdCells (hdWay f.kind f.pos f.root f.names) (.slice va3 f.names.length vc3) (.slice ka3 f.fst.len kc3) (.slice ea3 f.kids.len ec3)), u.oneCell' = true := by
     intro u hu
     simp only [hdCells, List.mem_cons, List.not_mem_nil, or_false] at hu
     rcases hu with rfl | rfl | rfl | rfl | rfl | rfl | rfl | rfl <;> rfl
    obtain ⟨i0, hi, hz0, hz1, hz2⟩ := info_parts infoPart
    have hBw : B ≤ W3.heap.size + 1 := by have := hg3.hB; omega
    have hnk : some fb2 ≠ kv2.ownBlock := fun e => by have := hcol fb2 e.symm; omega
    have hLM : f2.kids.len + 1 ≤ maxLen := by unfold maxLen; omega
    have hLB : (f2.kids.len + 1) * 128 ≤ 140737488355328 := by omega
    have hl3 : r.length ≤ 64 := by omega
    have hc3 : r.length + 1 ≤ c := by omega
    clear hcl3
    go_region_law (first | (go_simp; go_at_call 77; refine (top_cells bx g r.length fb2 c _ hl3 hc3 hc2 (by first | exact c0 | exact c0a _) (by first | exact hct2 | exact cta _)).mono ?_; rintro e wt ⟨rfl, rfl⟩) | (refine step_append_lies _ (by rfl) _ _ _ (by rfl) B 56 i0 _ 8 128 Tryz.underlying22 hi hz0 hz1 hz2 (by rfl) (by decide) kv2 f2.kids.len cs (by rfl) (by exact hownA _) ⟨W3.heap.size, 0, none⟩ 1 1 (hdCells (hdWay f.kind f.pos f.root f.names) (.slice va3 f.names.length vc3) (.slice ka3 f.fst.len kc3) (.slice ea3 f.kids.len ec3)) (by rfl) (by rfl) (by exact hnewsA) hone (by decide) hLM hLB (by simp; omega) (W3.heap.size + 1) (by simp) ?_; intro g2 cap2 w2 hown2 hgrow2 hat2 hlt2; have hfh3 := (hgrow2.block fb2 (by simp; omega) hnk).trans ((Below.heap_alloc _ _ _ hfb3).trans hfh2); have s13 : w2.cell? ⟨fb2, 13, none⟩ = some kv2 := (by rw [cell_of_heap' hfh3]; rfl); have z13 := frozen_cells hfh3 13))
    all_goals
     have hgr : (W3.alloc (.cells #[.int .u8 (f.kind : Nat), .int .i64 (f.pos : Nat), .string ⟨#[]⟩, .bool f.root, .slice va3 f.names.length vc3, .string ⟨#[]⟩, .slice ka3 f.fst.len kc3, .slice ea3 f.kids.len ec3] 56)).grownBy w2 kv2.ownBlock := ⟨hgrow2.os, hgrow2.tape, hgrow2.output, hgrow2.size, hgrow2.block⟩
     clear hfh3 s13 z13 hgrow2
     have hsz2 : W3.heap.size ≤ w2.heap.size := by have := hgr.size; simp at this; omega
     have hbl2 : ∀ b, b < W3.heap.size → some b ≠ kv2.ownBlock → w2.heap[b]? = W3.heap[b]? := fun b hb hn => (hgr.block b (by simp; omega) hn).trans (Below.heap_alloc _ _ _ hb)
     have hF := hg3.appended hfb2 hcf2 hkl2 hfh2 hfn2 hfk2 hS2 hcol hrow hn3 hk3 he3 hsz2 hbl2 hown2 (hat2.imp id (fun e => by omega))
     have hB3 : Below B w (w2.setCell ⟨fb2, 13, none⟩ (.slice (some ⟨g2, 0, none⟩) (f2.kids.len + 1) cap2)) := ((HB2.alloc hg3.hB _).grown hgr (by simp; omega) (fun k hk => (World.ownsRow.lt hown k hk).1)).setCell hfb2 _
     go_end0
     rw [HE.out]
     exact ⟨hB3, rfl, hF⟩
theorem infoDef : (Tryz.prog.info? 70).map (fun i => (i.zero, i.size, i.bytes)) = some (some (.agg #[.string ⟨#[]⟩, .int .i64 0, .slice none 0 0]), 3, 48) := by kernel_rfl
def ClosedD (B q bx fb g c : Nat) (f : Fr) (s : St) (bs : List Nat) (dv cv : Value) (W : World) : Prop :=
 ∃ col ka kc, RdG B q bx s col bs (.slice (some ⟨g, 0, none⟩) (s.rest.length + 1) c) dv cv W ∧ Parts (Ok col W) W (.slice ka f.kids.len kc) f.kids ∧
   W.cell? ⟨fb, 8, none⟩ = some (.string (mkB f.name)) ∧ W.cell? ⟨fb, 9, none⟩ = some (.int .i64 (f.pos : Nat)) ∧ W.cell? ⟨fb, 10, none⟩ = some (.slice ka f.kids.len kc)
theorem closed_def {B q bx fb g c : Nat} {f f2 : Fr} {r : List Fr} {defs : List Df} {many : Nat} {calls : List (By × Nat)} {col : Nat → Nat} {bs : List Nat} {dv cv : Value} {w : World}
 (hg : RdG B q bx ⟨f, f2 :: r, defs, many, calls⟩ col (fb :: bs) (.slice (some ⟨g, 0, none⟩) (r.length + 1 + 1) c) dv cv w) (hk : f.kind = 6) {vn vk kv : Value} (hh : w.heap[fb]? = some (.cells (frCells f vn vk kv) 100 (0, 0))) :
 ClosedD B q bx fb g c f ⟨f2, r, defs, many, calls⟩ bs dv cv ((w.setCell ⟨bx, 0, none⟩ (.slice (some ⟨g, 0, none⟩) (r.length + 1) c)).setCell ⟨fb, 10, none⟩ kv) := by
 have hp := hg.popped
 have hS1 := same_set col w bx 0 1 (.slice (some ⟨g, 0, none⟩) (r.length + 1) c) hg.cx
 obtain ⟨fb', bs', he, hF, -⟩ := hg.fr
 injection he with e1 e2
 subst e1; subst e2
 have hF1 : FrM B col (w.setCell ⟨bx, 0, none⟩ (.slice (some ⟨g, 0, none⟩) (r.length + 1) c)) q (r.length + 1) fb f := hF.same hS1 (by decide) (by show 5 + 2 * (r.length + 1) ≠ 1; omega) (by show 6 + 2 * (r.length + 1) ≠ 1; omega) (Nat.le_refl q)
 have hcf : col fb = 5 + 2 * (r.length + 1) := hF1.2.1
 have hne : fb ≠ bx := fun e => by have := hg.cx; rw [← e, hcf] at this; omega
 have hh1 : (w.setCell ⟨bx, 0, none⟩ (.slice (some ⟨g, 0, none⟩) (r.length + 1) c)).heap[fb]? = some (.cells (frCells f vn vk kv) 100 (0, 0)) := (Below.heap_setCell _ _ _ _ hne).trans hh
 clear hS1 hF hh
 obtain ⟨W, hW⟩ : ∃ W, w.setCell ⟨bx, 0, none⟩ (.slice (some ⟨g, 0, none⟩) (r.length + 1) c) = W := ⟨_, rfl⟩
 rw [hW] at hp hF1 hh1 ⊢
 clear hW hg
 obtain ⟨hfb, -, hkl, vn', vk', kv', hfh, hfn, hfk, hK⟩ := hF1
 have e1 : frCells f vn vk kv = frCells f vn' vk' kv' := by
  have := hh1.symm.trans hfh
  injection this with this
  injection this
 have ev : kv = kv' := congrArg (fun c : Array Value => c[13]!) e1
 subst ev
 have hcol : ∀ g, kv.ownBlock = some g → col g = 6 + 2 * (r.length + 1) := by
  obtain ⟨cs, ⟨-, h2⟩, -⟩ := hK
  exact h2
 have hS : Same (fun c => c ≠ 5 + 2 * (r.length + 1) ∧ c ≠ 6 + 2 * (r.length + 1)) col (fade col kv) W (W.setCell ⟨fb, 10, none⟩ kv) :=
  ⟨by simp [World.setCell], fun b _ hc => ⟨fade_old hcol hc.2, Below.heap_setCell _ _ _ _ (fun e => hc.1 (by rw [e]; exact hcf))⟩⟩
 have c0 : (fun c => c ≠ 5 + 2 * (r.length + 1) ∧ c ≠ 6 + 2 * (r.length + 1)) 0 := ⟨by omega, by omega⟩
 have hp2 : RdG B q bx ⟨f2, r, defs, many, calls⟩ (fade col kv) bs (.slice (some ⟨g, 0, none⟩) (r.length + 1) c) dv cv (W.setCell ⟨fb, 10, none⟩ kv) :=
  hp.same' hS (fun c hc => by replace hc : c ≤ 6 + 2 * r.length := hc; exact ⟨by omega, by omega⟩) (Nat.le_refl q)
 have hkf : Parts (Ok (fade col kv) (W.setCell ⟨fb, 10, none⟩ kv)) (W.setCell ⟨fb, 10, none⟩ kv) kv f.kids :=
  kids_faded hK hS c0 (fun g hg => Below.heap_setCell _ _ _ _ (fun e => by have e2 : g = fb := e; have := hcol g hg; rw [e2, hcf] at this; omega))
 have hcells : (W.setCell ⟨fb, 10, none⟩ kv).heap[fb]? = some (.cells ((frCells f vn' vk' kv).setIfInBounds 10 kv) 100 (0, 0)) := set_cells (j := 10) hfh kv
 obtain ⟨ka, kc, hkv⟩ := hK.slice
 refine ⟨fade col kv, ka, kc, hp2, ?_, ?_, ?_, ?_⟩
 · rw [← hkv]; exact hkf
 · rw [cell_of_heap' hcells]; rfl
 · rw [cell_of_heap' hcells]; simp [frCells, hk]
 · rw [cell_of_heap' hcells, ← hkv]; rfl
theorem RdG.defd {B q bx : Nat} {s : St} {col : Nat → Nat} {bs : List Nat} {sv dv cv : Value} {w w2 : World} (hg : RdG B q bx s col bs sv dv cv w) {cs : List Value} {d : Df} {v : Value}
 (hcol : ∀ g, dv.ownBlock = some g → col g = 3) (hrow : DRowC (Ok col w) w s.defs cs) (hp : Parts (Ok col w) w v d.kids)
 (hsz : w.heap.size ≤ w2.heap.size) (hbl : ∀ b, b < w.heap.size → some b ≠ dv.ownBlock → w2.heap[b]? = w.heap[b]?) {g2 cap2 : Nat}
 (hown : w2.ownsRow B 70 3 (.slice (some ⟨g2, 0, none⟩) (s.defs.length + 1) cap2) (s.defs.length + 1) (cs ++ [.string d.name, .int .i64 d.pos, v])) (hat : dv.ownBlock = some g2 ∨ w.heap.size ≤ g2) :
 RdM B (q + 1) bx { s with defs := s.defs ++ [d] } (w2.setCell ⟨bx, 2, none⟩ (.slice (some ⟨g2, 0, none⟩) (s.defs.length + 1) cap2)) := by
 have hbxl := lt_of_block hg.hx
 have hS := same_grown (j := 2) (u := .slice (some ⟨g2, 0, none⟩) (s.defs.length + 1) cap2) hg.cx (by decide : (1 : Nat) ≠ 3) hcol hsz hbl hat
 have hx2 : w2.heap[bx]? = some (.cells (rdCells sv dv s.many cv) 103 (0, 0)) := (hbl bx hbxl (fun e => by have := hcol bx e.symm; rw [hg.cx] at this; cases this)).trans hg.hx
 have hne : g2 ≠ bx := by
  rintro rfl
  rcases hat with h1 | h1
  · have := hcol _ h1; rw [hg.cx] at this; cases this
  · omega
 have c0 : (fun k => k ≠ 1 ∧ k ≠ 3) 0 := ⟨by decide, by decide⟩
 exact ⟨dye col g2 3, bs, sv, .slice (some ⟨g2, 0, none⟩) (s.defs.length + 1) cap2, cv, {
  bb := hg.bb
  cx := (dye_old (Ne.symm hne)).trans hg.cx
  hx := set_cells (j := 2) hx2 _
  st := hg.st.same hS ⟨by decide, by decide⟩
  fr := hg.fr.same hS c0 (Nat.le_succ q) _ _ (fun i _ => ⟨⟨by omega, by omega⟩, ⟨by omega, by omega⟩⟩)
  df := ⟨cs ++ [.string d.name, .int .i64 d.pos, v], ⟨by
   rw [List.length_append, List.length_singleton]
   exact own_set hown _ _ _ (fun e => hne (by simpa [Value.ownBlock] using e)), fun g hg' => by
   have : g2 = g := by simpa [Value.ownBlock] using hg'
   rw [← this]; exact dye_new _ _⟩, DRowC.app _ _ _ _ (DRowC.same hS c0 _ _ hrow) ⟨v, [], rfl, hS.parts c0 hp, rfl⟩⟩
  cl := hg.cl.same hS ⟨by decide, by decide⟩
  l1 := hg.l1
  l2 := hg.l2
  l3 := by rw [List.length_append, List.length_singleton]; have := hg.l3; omega
  l4 := Nat.le_succ_of_le hg.l4
  hB := Nat.le_trans hg.hB hS.1
  ol := fun b hb => (dye_old (by have := own_ge hown; omega)).trans (hg.ol b hb) }⟩
set_option maxRecDepth 100000 in
set_option maxHeartbeats 4000000 in
theorem end_def (B q bx at_ : Nat) (hq : q ≤ 16777216) (hat : at_ ≤ 16777216) (f f2 : Fr) (r : List Fr) (defs : List Df) (many : Nat) (calls : List (By × Nat)) (hk6 : f.kind = 6) (wv : Value) (w : World) (h : RdM B q bx ⟨f, f2 :: r, defs, many, calls⟩ w) :
 Calls Tryz.prog 86 #[.pointer (some ⟨bx, 0, none⟩), wv, .int .i64 (at_ : Nat)] w (RsPost B (q + 1) bx w (St.endA at_ ⟨f, f2 :: r, defs, many, calls⟩)) := by
 obtain ⟨col, bs, sv, dv, cv, hg⟩ := h
 obtain ⟨c0, -, -, -, -, fz⟩ := hg.cells
 obtain ⟨fb, bs', g, c, rfl, hl, rfl, hc1, hc2, hcg, hF, -, hct⟩ := hg.top
 obtain ⟨hfb, hcf, hkl, vn, vk, kv, hfh, hfn, hfk, hK⟩ := hF
 obtain ⟨ka, kc, rfl⟩ := hK.slice
 have hl2 : r.length + 1 ≤ 64 := hg.l2
 replace c0 : w.cell? ⟨bx, 0, none⟩ = some (.slice (some ⟨g, 0, none⟩) (r.length + 1 + 1) c) := c0
 have TP := Lib.hid (top_cells bx g (r.length + 1) fb c w hl2 hc1 hc2 c0 hct)
 replace hc1 : r.length + 1 + 1 ≤ c := hc1
 have HC1 := Lib.hid (closed_def hg hk6 hfh)
 have f10 : w.cell? ⟨fb, 10, none⟩ = some (.slice none 0 0) := by rw [cell_of_heap' hfh]; rfl
 have f11 : w.cell? ⟨fb, 11, none⟩ = some (.bool true) := by rw [cell_of_heap' hfh]; show some (Value.bool (f.kind == 6)) = _; rw [hk6]; rfl
 have f13 : w.cell? ⟨fb, 13, none⟩ = some (.slice ka f.kids.len kc) := by rw [cell_of_heap' hfh]; rfl
 have fzf := frozen_cells hfh
 have hne1 : bx ≠ fb := fun e => by have := hg.cx; rw [e, hcf] at this; omega
 have HBB : Hid (B ≤ bx) := hg.bb
 have HFB : Hid (B ≤ fb) := hfb
 have t1 : ((r.length : Int) + 1 + 1 == 1) = false := by rw [beq_eq_false_iff_ne]; omega
 have wn : IntKind.i64.wrap ((r.length : Int) + 1 + 1 - 1) = (r.length : Int) + 1 := by rw [IntWalk.i64_in _ (by omega)]; omega
 have HE : Hid (St.endA at_ ⟨f, f2 :: r, defs, many, calls⟩ = .ok ⟨f2, r, defs ++ [⟨mkB f.name, f.pos, f.kids⟩], many, calls⟩) := if_pos hk6
 clear hg hfh hct hkl hK hcf hfb hk6 hfn hfk
 go_enter Tryz.func86, Tryz.ntmps86
 go_wp2_with fail
 refine TP.out.mono ?_
 rintro e w1 ⟨rfl, rfl⟩
 go_wp2_with fail
 go_region
 all_goals
  go_wp2_with fail
  generalize hW : World.setCell (World.setCell _ _ _) _ _ = W3
  rw [hW] at HC1
  have HB2 : Below B w W3 := by rw [← hW]; exact ((Below.refl B w).setCell HBB.out _).setCell HFB.out _
  clear hW TP f10 f11 f13 fzf c0 fz
  obtain ⟨col3, ka3, kc3, hg3, hk3, p8, p9, p10⟩ := HC1.out
  clear HC1
  obtain ⟨c0, -, c2, -, -, fz⟩ := hg3.cells
  have hbx3 := lt_of_block hg3.hx
  have hfb3 := lt_of_cell p8
  obtain ⟨cs, ⟨hown, hcol⟩, hrow⟩ := hg3.df
  replace hown : W3.ownsRow B 70 3 dv defs.length cs := hown
  have hownA : ∀ o, (W3.alloc o).ownsRow B 70 3 dv defs.length cs := fun o => World.ownsRow.alloc hown o
  have hnewsA : ∀ j u, ([.string (mkB f.name), .int .i64 (f.pos : Nat), .slice ka3 f.kids.len kc3] : List Value)[j]? = some u → (W3.alloc (.cells #[.string (mkB f.name), .int .i64 (f.pos : Nat), .slice ka3 f.kids.len kc3] 70)).cell? ((⟨W3.heap.size, 0, none⟩ : Addr).add j) = some u := by
   intro j u hj
   have hb := heap_alloc_new W3 (.cells #[.string (mkB f.name), .int .i64 (f.pos : Nat), .slice ka3 f.kids.len kc3] 70)
   have hadd : (⟨W3.heap.size, 0, none⟩ : Addr).add j = ⟨W3.heap.size, j, none⟩ := by unfold Addr.add; split <;> simp_all
   rw [hadd, cell_of_heap' hb]
   simpa using hj
  have hone : ∀ u ∈ ([.string (mkB f.name), .int .i64 (f.pos : Nat), .slice ka3 f.kids.len kc3] : List Value), u.oneCell' = true := by
   intro u hu
   simp only [List.mem_cons, List.not_mem_nil, or_false] at hu
   rcases hu with rfl | rfl | rfl <;> rfl
  obtain ⟨i0, hi, hz0, hz1, hz2⟩ := info_parts infoDef
  have hBw : B ≤ W3.heap.size + 1 := by have := hg3.hB; omega
  have hnk : some bx ≠ dv.ownBlock := fun e => by have := hcol bx e.symm; rw [hg3.cx] at this; cases this
  have hdl : defs.length ≤ q := hg3.l3
  have hLM : defs.length + 1 ≤ maxLen := by unfold maxLen; omega
  have hLB : (defs.length + 1) * 48 ≤ 140737488355328 := by omega
  have h24 : (1 : Nat) * 3 = 3 := rfl
  go_region_law (refine step_append_lies _ (by rfl) _ _ _ (by rfl) B 70 i0 _ 3 48 Tryz.underlying23 hi hz0 hz1 hz2 (by rfl) (by decide) dv defs.length cs (by rfl) (by exact hownA _) ⟨W3.heap.size, 0, none⟩ 1 1 [.string (mkB f.name), .int .i64 (f.pos : Nat), .slice ka3 f.kids.len kc3] (by rfl) (by rfl) (by exact hnewsA) hone (by decide) hLM hLB (by simp; omega) (W3.heap.size + 1) (by simp) ?_; intro g2 cap2 w2 hown2 hgrow2 hat2 hlt2; have hx2 := (hgrow2.block bx (by simp; omega) hnk).trans ((Below.heap_alloc _ _ _ hbx3).trans hg3.hx); have s2 : w2.cell? ⟨bx, 2, none⟩ = some dv := (by rw [cell_of_heap' hx2]; rfl); have z2 := frozen_cells hx2 2)
  all_goals
   have hgr : (W3.alloc (.cells #[.string (mkB f.name), .int .i64 (f.pos : Nat), .slice ka3 f.kids.len kc3] 70)).grownBy w2 dv.ownBlock := ⟨hgrow2.os, hgrow2.tape, hgrow2.output, hgrow2.size, hgrow2.block⟩
   clear hx2 s2 z2 hgrow2
   have hsz2 : W3.heap.size ≤ w2.heap.size := by have := hgr.size; simp at this; omega
   have hbl2 : ∀ b, b < W3.heap.size → some b ≠ dv.ownBlock → w2.heap[b]? = W3.heap[b]? := fun b hb hn => (hgr.block b (by simp; omega) hn).trans (Below.heap_alloc _ _ _ hb)
   have hF := hg3.defd (d := ⟨mkB f.name, f.pos, f.kids⟩) hcol hrow hk3 hsz2 hbl2 hown2 (hat2.imp id (fun e => by omega))
   have hB3 : Below B w (w2.setCell ⟨bx, 2, none⟩ (.slice (some ⟨g2, 0, none⟩) (defs.length + 1) cap2)) := ((HB2.alloc hg3.hB _).grown hgr (by simp; omega) (fun k hk => (World.ownsRow.lt hown k hk).1)).setCell hg3.bb _
   go_wp2_with fail
   go_end0
   rw [HE.out]
   exact ⟨hB3, rfl, hF⟩
end Go.Proofs.YtepcpgdfbaklfaaGreatDoor
