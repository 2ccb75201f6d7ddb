/- The contract of the reader's add. The condition: no list is longer than 2 to the 24th. -/
import Derived.Test.YtepcpgdfbaklfaaGreatDoorMcTrc
import Derived.Deep.RegionLaw
import Derived.Deep.RegionHeldLaw
import Derived.Test.YtepcpgdfbaklfaaGreatDoorMcTma
set_option linter.unusedVariables false
namespace Go.Proofs.YtepcpgdfbaklfaaGreatDoor
open Go.RowKit Go.Shelf
theorem infoPart : (Tryz.prog.info? 56).map (fun i => (i.zero, i.size, i.bytes)) = some (some (.agg #[.int .u8 0, .int .i64 0, .string ⟨#[]⟩, .bool false, .slice none 0 0, .string ⟨#[]⟩, .slice none 0 0, .slice none 0 0]), 8, 128) := by kernel_rfl
set_option maxHeartbeats 4000000 in
theorem add_calls (B q bx : Nat) (hq : q ≤ 16777216) (s : St) (h : Hd) (at_ : Nat) (hat : at_ ≤ 16777216) (hp : h.pos = (at_ : Int)) (col : Nat → Nat) (bs : List Nat) (sv dv cv vn : Value) (w : World) (hg : RdG B q bx s col bs sv dv cv w) (hn : Strs (Ok col w) w vn h.names) :
 Calls Tryz.prog 46 #[.pointer (some ⟨bx, 0, none⟩), .agg #[.int .u8 (h.kind : Nat), .int .i64 (at_ : Nat), .string h.text, .bool h.root, vn, .string h.name, .slice none 0 0, .slice none 0 0]] w (RsPost B (q + 1) bx w (s.add h at_)) := by
 obtain ⟨c0, c1, c2, c3, c4, fz⟩ := hg.cells
 obtain ⟨fb, bs', g, c, rfl, hl, rfl, hc1, hc2, hcg, hF, hS, hct⟩ := hg.top
 obtain ⟨hfb, hcf, hkl, vn0, vk0, kv, hfh, hfn, hfk, hK⟩ := hF
 have hm := hg.l1
 have hl2 := hg.l2
 have hbx := lt_of_block hg.hx
 have hfbl := lt_of_block hfh
 have hgl := lt_of_cell hct
 have hne1 : bx ≠ fb := fun e => by have := hg.cx; rw [e, hcf] at this; omega
 have hne2 : bx ≠ g := fun e => by have := hg.cx; rw [e, hcg] at this; omega
 have hne3 : fb ≠ g := fun e => by rw [e, hcg] at hcf; omega
 obtain ⟨an, cn, rfl, n1, n2, n3⟩ := hn
 obtain ⟨PB, hPB⟩ : ∃ o : Obj, Obj.cells #[.int .u8 (h.kind : Nat), .int .i64 (at_ : Nat), .string h.text, .bool h.root, .slice an h.names.length cn, .string h.name, .slice none 0 0, .slice none 0 0] 56 (0, 0) = o := ⟨_, rfl⟩
 have k3 : (w.alloc PB).cell? ⟨bx, 3, none⟩ = some (.int .i64 (s.many : Nat)) := (World.cell?_alloc_old w _ _ (Nat.ne_of_lt hbx)).trans c3
 have kz : (w.alloc PB).frozen? ⟨bx, 3, none⟩ = false := (World.frozen?_of_block (w := w) (Below.heap_alloc _ _ _ hbx)).trans (fz 3)
 have HC : Hid (Same (fun _ => True) col col w (w.alloc PB)) := ⟨by simp, fun b hb _ => ⟨rfl, Below.heap_alloc _ _ _ hb⟩⟩
 have hg1 := hg.same HC.out (fun _ => trivial) (Nat.le_refl q)
 have CT := count_cells B bx at_ s.many hm hat _ k3 kz
 have TP := top_cells bx g s.rest.length fb c
 by_cases hgt : 1024 < s.many + 1
 · rw [if_pos hgt] at CT
   have HE : Hid (s.add h at_ = .err 196 at_) := by unfold Hid St.add St.count; rw [if_pos hgt]; rfl
   have HB : Hid (Below B w ((w.alloc PB).setCell ⟨bx, 3, none⟩ (.int .i64 ((s.many + 1 : Nat) : Int)))) := ((Below.refl B w).alloc hg.hB _).setCell hg.bb _
   subst hPB
   have HCT := Lib.hid CT
   clear hg hg1 CT hgt k3 kz HC TP hK hfk hfn hS n3
   go_enter Tryz.func46, Tryz.ntmps46
   go_wp2_with fail
   refine HCT.out.mono ?_
   rintro e w1 ⟨rfl, hw1⟩
   have HB1 := HB.out
   rw [hw1] at HB1
   clear hw1
   go_wp2_with fail
   rw [HE.out]
   exact ⟨rfl, HB1, rfl⟩
 rw [if_neg hgt] at CT
 have hg2 := hg1.counted (by omega)
 have HP2 : ((w.alloc PB).setCell ⟨bx, 3, none⟩ (.int .i64 ((s.many + 1 : Nat) : Int))).heap[w.heap.size]? = some PB := by
  rw [Below.heap_setCell _ _ _ _ (show w.heap.size ≠ bx by omega)]; exact heap_alloc_new w PB
 have HB2 : Below B w ((w.alloc PB).setCell ⟨bx, 3, none⟩ (.int .i64 ((s.many + 1 : Nat) : Int))) := ((Below.refl B w).alloc hg.hB _).setCell hg.bb _
 have HE : Hid (s.add h at_ = .ok (({ s with many := s.many + 1 } : St).put h .nil .nil)) := by unfold Hid St.add St.count; rw [if_neg hgt]; rfl
 rw [HE.out]
 subst hPB
 have HCT := Lib.hid CT
 have hn2 : Strs (Ok col ((w.alloc _).setCell ⟨bx, 3, none⟩ (.int .i64 ((s.many + 1 : Nat) : Int)))) _ (.slice an h.names.length cn) h.names := (same_set col _ bx 3 1 _ hg.cx).strs (by decide) (HC.out.strs trivial ⟨an, cn, rfl, n1, n2, n3⟩)
 clear CT hgt k3 kz HC hK hfk hfn hS n3 c0 c1 c2 c3 c4 fz hct hfh hg hg1 hfbl hgl hkl hfb hcf
 go_enter Tryz.func46, Tryz.ntmps46
 go_wp2_with fail
 refine HCT.out.mono ?_
 rintro e w1 ⟨rfl, hw1⟩
 rw [hw1] at hg2 HP2 HB2 hn2
 clear HCT hw1
 obtain ⟨c0, c1, c2, c3, c4, fz⟩ := hg2.cells
 obtain ⟨⟨hfb, hcf, hkl, vn0, vk0, kv, hfh, hfn, hfk, hK⟩, hS, hct⟩ := hg2.top'
 replace hcf : col fb = 5 + 2 * s.rest.length := hcf
 replace hkl : s.top.kids.len ≤ q := hkl
 replace hct : w1.cell? ⟨g, s.rest.length, none⟩ = some (.pointer (some ⟨fb, 0, none⟩)) := hct
 have hbx1 := lt_of_block hg2.hx
 have hfb1 := lt_of_block hfh
 have hg1 := lt_of_cell hct
 have f13 : w1.cell? ⟨fb, 13, none⟩ = some kv := by rw [cell_of_heap' hfh]; rfl
 have fzf := frozen_cells hfh
 have c0a : ∀ o, (w1.alloc o).cell? ⟨bx, 0, none⟩ = some (.slice (some ⟨g, 0, none⟩) (s.rest.length + 1) c) := fun o => (World.cell?_alloc_old w1 _ _ (Nat.ne_of_lt hbx1)).trans c0
 have cta : ∀ o, (w1.alloc o).cell? ⟨g, s.rest.length, none⟩ = some (.pointer (some ⟨fb, 0, none⟩)) := fun o => (World.cell?_alloc_old w1 _ _ (Nat.ne_of_lt hg1)).trans hct
 have p0 : w1.cell? ⟨w.heap.size, 0, none⟩ = some (.int .u8 (h.kind : Nat)) := by rw [cell_of_heap' HP2]; rfl
 have p1 : w1.cell? ⟨w.heap.size, 1, none⟩ = some (.int .i64 (at_ : Nat)) := by rw [cell_of_heap' HP2]; rfl
 have p2 : w1.cell? ⟨w.heap.size, 2, none⟩ = some (.string h.text) := by rw [cell_of_heap' HP2]; rfl
 have p3 : w1.cell? ⟨w.heap.size, 3, none⟩ = some (.bool h.root) := by rw [cell_of_heap' HP2]; rfl
 have p4 : w1.cell? ⟨w.heap.size, 4, none⟩ = some (.slice an h.names.length cn) := by rw [cell_of_heap' HP2]; rfl
 have p5 : w1.cell? ⟨w.heap.size, 5, none⟩ = some (.string h.name) := by rw [cell_of_heap' HP2]; rfl
 have p6 : w1.cell? ⟨w.heap.size, 6, none⟩ = some (.slice none 0 0) := by rw [cell_of_heap' HP2]; rfl
 have p7 : w1.cell? ⟨w.heap.size, 7, none⟩ = some (.slice none 0 0) := by rw [cell_of_heap' HP2]; rfl
 obtain ⟨cs, ⟨hown, hcol⟩, hrow⟩ := hK
 replace hcol : ∀ g, kv.ownBlock = some g → col g = 6 + 2 * s.rest.length := hcol
 have hownA : ∀ o, (w1.alloc o).ownsRow B 56 8 kv s.top.kids.len cs := fun o => World.ownsRow.alloc hown o
 have hnewsA : ∀ j u, (hdCells h (.slice an h.names.length cn) (.slice none 0 0) (.slice none 0 0))[j]? = some u → (w1.alloc (.cells #[.int .u8 (h.kind : Nat), .int .i64 (at_ : Nat), .string h.text, .bool h.root, .slice an h.names.length cn, .string h.name, .slice none 0 0, .slice none 0 0] 56)).cell? ((⟨w1.heap.size, 0, none⟩ : Addr).add j) = some u := by
  intro j u hj
  have hb := heap_alloc_new w1 (.cells #[.int .u8 (h.kind : Nat), .int .i64 (at_ : Nat), .string h.text, .bool h.root, .slice an h.names.length cn, .string h.name, .slice none 0 0, .slice none 0 0] 56)
  have hadd : (⟨w1.heap.size, 0, none⟩ : Addr).add j = ⟨w1.heap.size, j, none⟩ := by unfold Addr.add; split <;> simp_all
  rw [hadd, cell_of_heap' hb]
  unfold hdCells at hj
  rw [hp] at hj
  simpa using hj
 have hone : ∀ u ∈ hdCells h (.slice an h.names.length cn) (.slice none 0 0) (.slice none 0 0), u.oneCell' = true := by
  intro u hu
  simp only [hdCells, List.mem_cons, List.not_mem_nil, or_false] at hu
  rcases hu with rfl | rfl | rfl | rfl | rfl | rfl | rfl | rfl <;> rfl
 obtain ⟨i0, hi, hz0, hz1, hz2⟩ := info_parts infoPart
 have hBw : B ≤ w1.heap.size + 1 := by have := HB2.size; have := hg2.hB; omega
 have hnk : some fb ≠ kv.ownBlock := fun e => by have := hcol fb e.symm; omega
 have hLM : s.top.kids.len + 1 ≤ maxLen := by unfold maxLen; omega
 have hLB : (s.top.kids.len + 1) * 128 ≤ 140737488355328 := by omega
 go_wp2
 go_region_law (first | (go_simp; go_at_call 77; refine (TP _ hl2 hc1 hc2 (by first | exact c0 | exact c0a _) (by first | exact hct | exact cta _)).mono ?_; rintro e wt ⟨rfl, rfl⟩) | (refine step_append_lies _ (by rfl) _ _ _ (by rfl) B 56 i0 _ 8 128 Tryz.underlying22 hi hz0 hz1 hz2 (by rfl) (by decide) kv s.top.kids.len cs (by rfl) (by exact hownA _) ⟨w1.heap.size, 0, none⟩ 1 1 (hdCells h (.slice an h.names.length cn) (.slice none 0 0) (.slice none 0 0)) (by rfl) (by rfl) (by exact hnewsA) hone (by decide) hLM hLB (by simp; omega) (w1.heap.size + 1) (by simp) ?_; intro g2 cap2 w2 hown2 hgrow2 hat2 hlt2; have hfh2 := (hgrow2.block fb (by simp; omega) hnk).trans ((Below.heap_alloc _ _ _ hfb1).trans hfh); have s13 : w2.cell? ⟨fb, 13, none⟩ = some kv := (by rw [cell_of_heap' hfh2]; rfl); have z13 := frozen_cells hfh2 13))
 all_goals
  have hgr : (w1.alloc (.cells #[.int .u8 (h.kind : Nat), .int .i64 (at_ : Nat), .string h.text, .bool h.root, .slice an h.names.length cn, .string h.name, .slice none 0 0, .slice none 0 0] 56)).grownBy w2 kv.ownBlock := ⟨hgrow2.os, hgrow2.tape, hgrow2.output, hgrow2.size, hgrow2.block⟩
  clear hfh2 s13 z13 hgrow2
  have hsz2 : w1.heap.size ≤ w2.heap.size := by have := hgr.size; simp at this; omega
  have hbl2 : ∀ b, b < w1.heap.size → some b ≠ kv.ownBlock → w2.heap[b]? = w1.heap[b]? := fun b hb hn => (hgr.block b (by simp; omega) hn).trans (Below.heap_alloc _ _ _ hb)
  have hF := hg2.appended hfb hcf hkl hfh hfn hfk hS hcol hrow hn2 (Parts.nil _ _) (Parts.nil _ _) hsz2 hbl2 hown2 (hat2.imp id (fun e => by omega))
  have hB3 : Below B w (w2.setCell ⟨fb, 13, none⟩ (.slice (some ⟨g2, 0, none⟩) (s.top.kids.len + 1) cap2)) := ((HB2.alloc hg2.hB _).grown hgr (by simp; omega) (fun k hk => (World.ownsRow.lt hown k hk).1)).setCell hfb _
  go_end0
  exact ⟨hB3, rfl, hF⟩
theorem RdG.reframe {B q q' bx fb : Nat} {s : St} {col col' : Nat → Nat} {bs : List Nat} {sv dv cv : Value} {w w2 : World} {f' : Fr} (hg : RdG B q bx s col (fb :: bs) sv dv cv w)
 (hS : Same (fun c => c ≠ 5 + 2 * s.rest.length ∧ c ≠ 6 + 2 * s.rest.length) col col' w w2) (hq : q ≤ q') (hF : FrM B col' w2 q' s.rest.length fb f') : RdG B q' bx { s with top := f' } col' (fb :: bs) sv dv cv w2 := by
 have c0 : (fun c => c ≠ 5 + 2 * s.rest.length ∧ c ≠ 6 + 2 * s.rest.length) 0 := ⟨by omega, by omega⟩
 obtain ⟨fb', bs', he, -, hSt⟩ := hg.fr
 injection he with e1 e2
 subst e1; subst e2
 exact {
  bb := hg.bb
  cx := (hS.2 bx (lt_of_block hg.hx) (by rw [hg.cx]; omega)).1.trans hg.cx
  hx := (hS.2 bx (lt_of_block hg.hx) (by rw [hg.cx]; omega)).2.trans hg.hx
  st := hg.st.same hS ⟨by omega, by omega⟩
  fr := ⟨fb, bs, rfl, hF, hSt.same hS c0 hq _ _ (fun i hi => by have hi2 : i < s.rest.length := hi; exact ⟨⟨by omega, by omega⟩, ⟨by omega, by omega⟩⟩)⟩
  df := hg.df.same hS c0 ⟨by omega, by omega⟩
  cl := hg.cl.same hS ⟨by omega, by omega⟩
  l1 := hg.l1
  l2 := hg.l2
  l3 := Nat.le_trans hg.l3 hq
  l4 := Nat.le_trans hg.l4 hq
  hB := Nat.le_trans hg.hB hS.1
  ol := fun b hb => (hS.2 b (Nat.lt_of_lt_of_le hb hg.hB) (by rw [hg.ol b hb]; omega)).1.trans (hg.ol b hb) }
def fade (col : Nat → Nat) (v : Value) (b : Nat) : Nat := if v.ownBlock = some b then 0 else col b
theorem fade_old {col : Nat → Nat} {v : Value} {b c : Nat} (hc : ∀ g, v.ownBlock = some g → col g = c) (hb : col b ≠ c) : fade col v b = col b := if_neg (fun e => hb (hc b e))
theorem ownsRow.same {w w' : World} {B n sz : Nat} {e : TypeId} {v : Value} {xs : List Value} (h : w.ownsRow B e sz v n xs) (hb : ∀ g, v.ownBlock = some g → w'.heap[g]? = w.heap[g]?) : w'.ownsRow B e sz v n xs := by
 refine ⟨h.1, ?_⟩
 rcases h.2 with h | ⟨g, cap, cur, h1, h2, h3, h4⟩
 · exact .inl h
 · exact .inr ⟨g, cap, cur, h1, h2, (hb g (by rw [h1]; rfl)).trans h3, h4⟩
theorem kids_faded {C : Nat → Prop} {B c : Nat} {col : Nat → Nat} {w w' : World} {kv : Value} {t : Pt} (h : Kids B col w c kv t) (hS : Same C col (fade col kv) w w') (h0 : C 0) (hb : ∀ g, kv.ownBlock = some g → w'.heap[g]? = w.heap[g]?) : Parts (Ok (fade col kv) w') w' kv t := by
 obtain ⟨cs, ⟨h1, h2⟩, h3⟩ := h
 exact Kids.parts ⟨cs, ⟨ownsRow.same h1 hb, fun g hg => if_pos hg⟩, RowC.same hS h0 _ _ h3⟩
theorem Kids.slice {B c : Nat} {col : Nat → Nat} {w : World} {kv : Value} {t : Pt} (h : Kids B col w c kv t) : ∃ a k, kv = .slice a t.len k := by
 obtain ⟨cs, ⟨⟨-, h2⟩, -⟩, -⟩ := h
 rcases h2 with ⟨h, h0⟩ | ⟨g, cap, cur, h, -⟩
 · exact ⟨none, 0, by rw [h, h0]⟩
 · exact ⟨_, cap, h⟩
def elseF (f : Fr) : Fr := { f with els := true, fst := f.kids, kids := .nil }
theorem FrM.elsed {B q lv fb : Nat} {col : Nat → Nat} {w : World} {f : Fr} (h : FrM B col w q lv fb f) {vn vk kv : Value} (hh : w.heap[fb]? = some (.cells (frCells f vn vk kv) 100 (0, 0))) :
 Same (fun c => c ≠ 5 + 2 * lv ∧ c ≠ 6 + 2 * lv) col (fade col kv) w (((w.setCell ⟨fb, 12, none⟩ (.bool true)).setCell ⟨fb, 6, none⟩ kv).setCell ⟨fb, 13, none⟩ (.slice none 0 0)) ∧
 FrM B (fade col kv) (((w.setCell ⟨fb, 12, none⟩ (.bool true)).setCell ⟨fb, 6, none⟩ kv).setCell ⟨fb, 13, none⟩ (.slice none 0 0)) q lv fb (elseF f) := by
 obtain ⟨hfb, hcf, hkl, vn', vk', kv', hfh, hfn, hfk, hK⟩ := h
 have e1 : frCells f vn vk kv = frCells f vn' vk' kv' := by
  have := hh.symm.trans hfh
  injection this with this
  injection this
 have en : vn = vn' := congrArg (fun c : Array Value => c[4]!) e1
 have ek : vk = vk' := congrArg (fun c : Array Value => c[6]!) e1
 have ev : kv = kv' := congrArg (fun c : Array Value => c[13]!) e1
 subst en; subst ek; subst ev
 have hcol : ∀ g, kv.ownBlock = some g → col g = 6 + 2 * lv := by
  obtain ⟨cs, ⟨-, h2⟩, -⟩ := hK
  exact h2
 have hne : ∀ b, b ≠ fb → (((w.setCell ⟨fb, 12, none⟩ (.bool true)).setCell ⟨fb, 6, none⟩ kv).setCell ⟨fb, 13, none⟩ (.slice none 0 0)).heap[b]? = w.heap[b]? := fun b hb => by
  rw [Below.heap_setCell _ _ _ _ hb, Below.heap_setCell _ _ _ _ hb, Below.heap_setCell _ _ _ _ hb]
 have hS : Same (fun c => c ≠ 5 + 2 * lv ∧ c ≠ 6 + 2 * lv) col (fade col kv) w (((w.setCell ⟨fb, 12, none⟩ (.bool true)).setCell ⟨fb, 6, none⟩ kv).setCell ⟨fb, 13, none⟩ (.slice none 0 0)) :=
  ⟨by simp [World.setCell], fun b _ hc => ⟨fade_old hcol hc.2, hne b (fun e => hc.1 (by rw [e]; exact hcf))⟩⟩
 have c0 : (fun c => c ≠ 5 + 2 * lv ∧ c ≠ 6 + 2 * lv) 0 := ⟨by omega, by omega⟩
 refine ⟨hS, hfb, ?_, Nat.zero_le _, vn, kv, .slice none 0 0, ?_, hS.strs c0 hfn, ?_, Kids.nil _ _ _ _⟩
 · rw [fade_old hcol (by omega)]; exact hcf
 · have h1 := set_cells (j := 13) (set_cells (j := 6) (set_cells (j := 12) hfh (.bool true)) kv) (.slice none 0 0)
   exact h1
 · exact kids_faded hK hS c0 (fun g hg => hne g (fun e => by have := hcol g hg; rw [e, hcf] at this; omega))
theorem else_err (s : St) (at_ : Nat) (h : s.rest = [] ∨ s.top.kind = 6 ∨ s.top.els = true) : s.elseA at_ = .err 192 at_ := if_pos h
theorem else_ok (s : St) (at_ : Nat) (h : ¬ (s.rest = [] ∨ s.top.kind = 6 ∨ s.top.els = true)) : s.elseA at_ = .ok { s with top := elseF s.top } := if_neg h
set_option maxRecDepth 100000 in
set_option maxHeartbeats 1000000 in
theorem other_calls (B q bx at_ : Nat) (hat : at_ ≤ 16777216) (s : St) (wv : Value) (w : World) (h : RdM B q bx s w) :
 Calls Tryz.prog 85 #[.pointer (some ⟨bx, 0, none⟩), wv, .int .i64 (at_ : Nat)] w (RsPost B q bx w (s.elseA at_)) := by
 obtain ⟨col, bs, sv, dv, cv, hg⟩ := h
 obtain ⟨c0, c1, c2, c3, c4, fz⟩ := hg.cells
 obtain ⟨fb, bs', g, c, rfl, hl, rfl, hc1, hc2, hcg, hF, -, hct⟩ := hg.top
 obtain ⟨hfb, hcf, hkl, vn, vk, kv, hfh, hfn, hfk, hK⟩ := hF
 obtain ⟨ka, kc, rfl⟩ := hK.slice
 have hl2 := hg.l2
 have TP := Lib.hid (top_cells bx g s.rest.length fb c w hl2 hc1 hc2 c0 hct)
 have f11 : w.cell? ⟨fb, 11, none⟩ = some (.bool (s.top.kind == 6)) := by rw [cell_of_heap' hfh]; rfl
 have f12 : w.cell? ⟨fb, 12, none⟩ = some (.bool s.top.els) := by rw [cell_of_heap' hfh]; rfl
 have f13 : w.cell? ⟨fb, 13, none⟩ = some (.slice ka s.top.kids.len kc) := by rw [cell_of_heap' hfh]; rfl
 have f6 : w.cell? ⟨fb, 6, none⟩ = some vk := by rw [cell_of_heap' hfh]; rfl
 have fzf := frozen_cells hfh
 have HG := Lib.hid hg
 have HH := Lib.hid hfh
 have HFB := Lib.hid hfb
 clear hg hfn hfk hK hct c1 c2 c3 c4 hfh hfb
 by_cases h0 : s.rest = []
 · have HE := Lib.hid (else_err s at_ (.inl h0))
   have t1 : ((s.rest.length : Int) + 1 == 1) = true := by rw [h0]; rfl
   clear h0
   go_enter Tryz.func85, Tryz.ntmps85
   go_wp2_with fail
   refine TP.out.mono ?_
   rintro e w1 ⟨rfl, rfl⟩
   go_wp2_with fail
   rw [HE.out]
   exact ⟨rfl, (Sl.drew w).below B, rfl⟩
 have hlen : 0 < s.rest.length := List.length_pos_iff.2 h0
 have t1 : ((s.rest.length : Int) + 1 == 1) = false := by rw [beq_eq_false_iff_ne]; omega
 by_cases h6 : s.top.kind = 6
 · have HE := Lib.hid (else_err s at_ (.inr (.inl h6)))
   rw [h6] at f11
   replace f11 : w.cell? ⟨fb, 11, none⟩ = some (.bool true) := f11
   clear h0 h6
   go_enter Tryz.func85, Tryz.ntmps85
   go_wp2_with fail
   refine TP.out.mono ?_
   rintro e w1 ⟨rfl, rfl⟩
   go_wp2_with fail
   rw [HE.out]
   exact ⟨rfl, (Sl.drew w).below B, rfl⟩
 have h6' : (s.top.kind == 6) = false := beq_eq_false_iff_ne.2 h6
 rw [h6'] at f11
 cases he : s.top.els with
 | true =>
   have HE := Lib.hid (else_err s at_ (.inr (.inr he)))
   rw [he] at f12
   clear h0 h6 h6' he
   go_enter Tryz.func85, Tryz.ntmps85
   go_wp2_with fail
   refine TP.out.mono ?_
   rintro e w1 ⟨rfl, rfl⟩
   go_wp2_with fail
   rw [HE.out]
   exact ⟨rfl, (Sl.drew w).below B, rfl⟩
 | false =>
   have HE := Lib.hid (else_ok s at_ (by rw [he]; simp [h0, h6]))
   rw [he] at f12
   clear h0 h6 h6' he
   go_enter Tryz.func85, Tryz.ntmps85
   go_wp2_with fail
   refine TP.out.mono ?_
   rintro e w1 ⟨rfl, rfl⟩
   go_wp2_with fail
   go_end0
   rw [HE.out]
   obtain ⟨hS, hF2⟩ := (HG.out.top'.1).elsed HH.out
   have hr := (HG.out.reframe hS (Nat.le_refl q) hF2).same ((Sl.drew _).same (fun _ => True) _) (fun _ => trivial) (Nat.le_refl q)
   exact ⟨(((((Below.refl B w).setCell HFB.out _).setCell HFB.out _).setCell HFB.out _)).trans ((Sl.drew _).below B), rfl, _, _, _, _, _, hr⟩
end Go.Proofs.YtepcpgdfbaklfaaGreatDoor
