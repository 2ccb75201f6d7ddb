/-
  The contract of lacunaref19's add. The condition: no list is longer than 2 to the 24th.
-/
import Derived.Test.YtdgcdjpjnhlihaaGreatDoorMgTu0
set_option linter.unusedVariables false
set_option linter.unusedSimpArgs false
namespace Go.Proofs.YtdgcdjpjnhlihaaGreatDoor
open Go.RowKit Go.Shelf

set_option maxRecDepth 100000 in
set_option maxHeartbeats 8000000 in
theorem addM_calls (B q bx : Nat) (hq : q ≤ 16777216) (src : ByteArray) (s : St) (E : Nat × Nat) (h : Hd) (k e : Pt) (col : Nat → Nat) (sv dv cv vn vk ve : Value) (w : World) (hg : RdR B q bx src s E col sv dv cv w) (hn : Strs (Ok col w) w vn h.names) (hk : Parts (Ok col w) w vk k) (he : Parts (Ok col w) w ve e) :
    Calls Tryz.prog 44 #[.pointer (some ⟨bx, 0, none⟩), .agg #[.int .u8 (h.kind : Nat), .int .i64 h.pos, .string h.text, .bool h.root, vn, .string h.name, vk, ve]] w (RnP B (q + 1) bx src (s.put h k e) E w) := by
  obtain ⟨g, c, cs, vn0, vk0, kv, hsv, hc1, hc2, hcg, hgB, hgl, hown, hcl, hkl, -⟩ := hg.top
  have hl2 := hg.l2
  have hbx := lt_of_block hg.hx
  have hBw := hg.hB
  obtain ⟨an, cn, rfl, -⟩ := id hn
  obtain ⟨ak, ck, rfl, -⟩ := id hk
  obtain ⟨ae, ce, rfl, -⟩ := id he
  have wn : IntKind.i64.wrap (((s.rest.length + 1 : Nat) : Int) + -1) = (s.rest.length : Int) := by rw [IntWalk.i64_in _ (by omega)]; omega
  have wl : (s.rest.length : Int) < ((s.rest.length + 1 : Nat) : Int) := by omega
  have w0 : (0 : Int) ≤ (s.rest.length : Int) := by omega
  have wl2 : (s.rest.length : Int) < (s.rest.length : Int) + 1 := by omega
  have HA : Hid (∀ bb : Bool, ∃ W, (((w.alloc (.cells #[.int .u8 (h.kind : Nat), .int .i64 h.pos, .string h.text, .bool h.root, .slice an h.names.length cn, .string h.name, .slice ak k.len ck, .slice ae e.len ce] 58)).alloc (.cells #[.bool bb] 4)).drew) = W ∧ Same (fun _ => True) col col w W ∧ Below B w W ∧ W.heap[w.heap.size]? = some (.cells #[.int .u8 (h.kind : Nat), .int .i64 h.pos, .string h.text, .bool h.root, .slice an h.names.length cn, .string h.name, .slice ak k.len ck, .slice ae e.len ce] 58 (0, 0)) ∧ w.heap.size < W.heap.size) := fun bb =>
    ⟨_, rfl, ⟨by simp; omega, fun b hb _ => ⟨rfl, (Below.heap_alloc (w.alloc (.cells #[.int .u8 (h.kind : Nat), .int .i64 h.pos, .string h.text, .bool h.root, .slice an h.names.length cn, .string h.name, .slice ak k.len ck, .slice ae e.len ce] 58)) (.cells #[.bool bb] 4) b (by simp; omega)).trans (Below.heap_alloc _ _ _ hb)⟩⟩, (((Below.refl B w).alloc hBw _).alloc (by simp; omega) _).trans ((Sl.drew _).below B),
      (Below.heap_alloc (w.alloc (.cells #[.int .u8 (h.kind : Nat), .int .i64 h.pos, .string h.text, .bool h.root, .slice an h.names.length cn, .string h.name, .slice ak k.len ck, .slice ae e.len ce] 58)) (.cells #[.bool bb] 4) _ (by simp)).trans (heap_alloc_new w _), by simp; omega⟩
  have c1 := hg.cells.2.1
  subst hsv
  have HG := Lib.hid hg
  have HN := Lib.hid hn
  have HK := Lib.hid hk
  have HE := Lib.hid he
  clear hg hn hk he hown
  go_enter Tryz.func44, Tryz.ntmps44
  go_upto_region 2 with (fail)
  go_region
  · obtain ⟨W1, hW, hS1, hb1, hP1, hz⟩ := HA.out false
    rw [hW]
    have hg1 := HG.out.same hS1 (fun _ _ _ => trivial) (Nat.le_refl q)
    have hn1 := hS1.strs trivial HN.out
    have hk1 := hS1.parts trivial HK.out
    have he1 := hS1.parts trivial HE.out
    clear hW hS1 HA HG HN HK HE c1 hbx hgl
    obtain ⟨g', c', cs, vn0, vk0, kv, hsv, hc1', hc2', hcg', hgB', hgl, hown, hcl, hkl, hfn, hfk, hKd, hStk, hF, hgz⟩ := hg1.top
    obtain ⟨rfl, rfl⟩ : g = g' ∧ c = c' := by injection hsv with e1 _ e2; injection e1 with e1; injection e1 with e1; exact ⟨e1, e2⟩
    clear hsv hc1' hc2' hcg' hgB'
    have hbx := lt_of_block hg1.hx
    obtain ⟨-, c1, -⟩ := hg1.cells
    have k10 : W1.cell? ⟨g, s.rest.length * 14 + 10, none⟩ = some kv := hF 10 _ rfl
    have c1a : ∀ o, (W1.alloc o).cell? ⟨bx, 1, none⟩ = some (.slice (some ⟨g, 0, none⟩) (s.rest.length + 1) c) := fun o => (World.cell?_alloc_old W1 _ _ (Nat.ne_of_lt hbx)).trans c1
    have k10a : ∀ o, (W1.alloc o).cell? ⟨g, s.rest.length * 14 + 10, none⟩ = some kv := fun o => (World.cell?_alloc_old W1 _ _ (Nat.ne_of_lt hgl)).trans k10
    have pp := cell_of_heap' hP1
    have p0 : W1.cell? ⟨w.heap.size, 0, none⟩ = some (.int .u8 (h.kind : Nat)) := pp 0
    have p1 : W1.cell? ⟨w.heap.size, 1, none⟩ = some (.int .i64 h.pos) := pp 1
    have p2 : W1.cell? ⟨w.heap.size, 2, none⟩ = some (.string h.text) := pp 2
    have p3 : W1.cell? ⟨w.heap.size, 3, none⟩ = some (.bool h.root) := pp 3
    have p4 : W1.cell? ⟨w.heap.size, 4, none⟩ = some (.slice an h.names.length cn) := pp 4
    have p5 : W1.cell? ⟨w.heap.size, 5, none⟩ = some (.string h.name) := pp 5
    have p6 : W1.cell? ⟨w.heap.size, 6, none⟩ = some (.slice ak k.len ck) := pp 6
    have p7 : W1.cell? ⟨w.heap.size, 7, none⟩ = some (.slice ae e.len ce) := pp 7
    clear pp
    have pa : ∀ ob j, (W1.alloc ob).cell? ⟨w.heap.size, j, none⟩ = W1.cell? ⟨w.heap.size, j, none⟩ := fun ob j => World.cell?_alloc_old W1 _ _ (Nat.ne_of_lt hz)
    have r0 := fun ob => (pa ob 0).trans p0
    have r1 := fun ob => (pa ob 1).trans p1
    have r2 := fun ob => (pa ob 2).trans p2
    have r3 := fun ob => (pa ob 3).trans p3
    have r4 := fun ob => (pa ob 4).trans p4
    have r5 := fun ob => (pa ob 5).trans p5
    have r6 := fun ob => (pa ob 6).trans p6
    have r7 := fun ob => (pa ob 7).trans p7
    clear pa
    obtain ⟨ks, ⟨hownk, hcol⟩, hrow⟩ := hKd
    have hksl : ks.length = s.top.kids.len * 8 := hownk.1
    obtain ⟨ka, kc, rfl⟩ : ∃ a k, kv = .slice a s.top.kids.len k := (show OwnC B col W1 (6 + 2 * s.rest.length) 58 8 kv s.top.kids.len ks from ⟨hownk, hcol⟩).slice
    have hownA : ∀ o, (W1.alloc o).ownsRow B 58 8 (.slice ka s.top.kids.len kc) s.top.kids.len ks := fun o => World.ownsRow.alloc hownk o
    have hnewsA : ∀ j u, ([.int .u8 (h.kind : Nat), .int .i64 h.pos, .string h.text, .bool h.root, .slice an h.names.length cn, .string h.name, .slice ak k.len ck, .slice ae e.len ce] : List Value)[j]? = some u → (W1.alloc (.cells #[.int .u8 (h.kind : Nat), .int .i64 h.pos, .string h.text, .bool h.root, .slice an h.names.length cn, .string h.name, .slice ak k.len ck, .slice ae e.len ce] 58)).cell? ((⟨W1.heap.size, 0, none⟩ : Addr).add j) = some u := by
      intro j u hj
      have hb := heap_alloc_new W1 (.cells #[.int .u8 (h.kind : Nat), .int .i64 h.pos, .string h.text, .bool h.root, .slice an h.names.length cn, .string h.name, .slice ak k.len ck, .slice ae e.len ce] 58)
      have hadd : (⟨W1.heap.size, 0, none⟩ : Addr).add j = ⟨W1.heap.size, j, none⟩ := by unfold Addr.add; split <;> simp_all
      rw [hadd, cell_of_heap' hb]
      simpa using hj
    have hone : ∀ u ∈ ([.int .u8 (h.kind : Nat), .int .i64 h.pos, .string h.text, .bool h.root, .slice an h.names.length cn, .string h.name, .slice ak k.len ck, .slice ae e.len ce] : List Value), u.oneCell' = true := by
      intro u hu
      simp only [List.mem_cons, List.not_mem_nil, or_false] at hu
      rcases hu with rfl | rfl | rfl | rfl | rfl | rfl | rfl | rfl <;> rfl
    obtain ⟨i0, hi, hz0, hz1, hz2⟩ := info_parts infoPart
    have hBw1 : B ≤ W1.heap.size + 1 := by have := hg1.hB; omega
    have hnk : some g ≠ (Value.slice ka s.top.kids.len kc).ownBlock := fun e => by have := hcol g e.symm; omega
    have hLM : s.top.kids.len + 1 ≤ maxLen := by unfold maxLen; omega
    have hLB : (s.top.kids.len + 1) * 128 ≤ 140737488355328 := by omega
    have hnx : some bx ≠ (Value.slice ka s.top.kids.len kc).ownBlock := fun e => by have := hcol bx e.symm; rw [hg1.cx] at this; omega
    go_upto_region 5 with (fail)
    go_region_law (refine step_append_lies _ (by rfl) _ _ _ (by rfl) B 58 i0 _ 8 128 Tryz.underlying22 hi hz0 hz1 hz2 (by rfl) (by decide) (.slice ka s.top.kids.len kc) s.top.kids.len ks (by rfl) (by exact hownA _) ⟨W1.heap.size, 0, none⟩ 1 1 [.int .u8 (h.kind : Nat), .int .i64 h.pos, .string h.text, .bool h.root, .slice an h.names.length cn, .string h.name, .slice ak k.len ck, .slice ae e.len ce] (by rfl) (by rfl) (by exact hnewsA) hone (by decide) hLM hLB (by simp; omega) (W1.heap.size + 1) (by simp) ?_; intro g2 cap2 w2 hown2 hgrow2 hat2 hlt2; have hx2 := (hgrow2.block g (by simp; omega) hnk).trans (Below.heap_alloc _ _ _ hgl); have s10 : w2.cell? ⟨g, s.rest.length * 14 + 10, none⟩ = some (.slice ka s.top.kids.len kc) := ((World.cell?_of_block (w := W1) hx2).trans k10); have z10 : w2.frozen? ⟨g, s.rest.length * 14 + 10, none⟩ = false := (World.frozen?_of_block (w := W1) hx2).trans (hgz _); have s1 : w2.cell? ⟨bx, 1, none⟩ = some (.slice (some ⟨g, 0, none⟩) (s.rest.length + 1) c) := ((World.cell?_of_block (w := W1) ((hgrow2.block bx (by simp; omega) hnx).trans (Below.heap_alloc _ _ _ hbx))).trans c1))
    all_goals
      have hgr : (W1.alloc (.cells #[.int .u8 (h.kind : Nat), .int .i64 h.pos, .string h.text, .bool h.root, .slice an h.names.length cn, .string h.name, .slice ak k.len ck, .slice ae e.len ce] 58)).grownBy w2 (Value.slice ka s.top.kids.len kc).ownBlock := ⟨hgrow2.os, hgrow2.tape, hgrow2.output, hgrow2.size, hgrow2.block⟩
      have hsz2 : W1.heap.size ≤ w2.heap.size := by have := hgr.size; simp at this; omega
      have hbl2 : ∀ b, b < W1.heap.size → some b ≠ (Value.slice ka s.top.kids.len kc).ownBlock → w2.heap[b]? = W1.heap[b]? := fun b hb hn => (hgr.block b (by simp; omega) hn).trans (Below.heap_alloc _ _ _ hb)
      have HB2 := Lib.hid ((hb1.alloc hg1.hB (.cells #[.int .u8 (h.kind : Nat), .int .i64 h.pos, .string h.text, .bool h.root, .slice an h.names.length cn, .string h.name, .slice ak k.len ck, .slice ae e.len ce] 58)).grown hgr (by simp; omega) (fun k hk => (World.ownsRow.lt hownk k hk).1))
      have hF2 := Lib.hid (hg1.appended (h := h) (k := k) (e := e) hcg hown hcl hkl hfn hfk hStk hcol hrow hn1 hk1 he1 hsz2 hbl2 hown2 (hat2.imp id (fun e => by omega)))
      have HB3 := Lib.hid (HB2.out.setCell (p := ⟨g, s.rest.length * 14 + 10, none⟩) hgB (.slice (some ⟨g2, 0, none⟩) (s.top.kids.len + 1) cap2))
      clear hbl2 hgr hgrow2 hownA hnewsA hone hF HB2
      go_end0
      exact ⟨rfl, HB3.out, hF2.out⟩
  · obtain ⟨W1, hW, hS1, hb1, hP1, hz⟩ := HA.out true
    rw [hW]
    have hg1 := HG.out.same hS1 (fun _ _ _ => trivial) (Nat.le_refl q)
    have hn1 := hS1.strs trivial HN.out
    have hk1 := hS1.parts trivial HK.out
    have he1 := hS1.parts trivial HE.out
    clear hW hS1 HA HG HN HK HE c1 hbx hgl
    obtain ⟨g', c', cs, vn0, vk0, kv, hsv, hc1', hc2', hcg', hgB', hgl, hown, hcl, hkl, hfn, hfk, hKd, hStk, hF, hgz⟩ := hg1.top
    obtain ⟨rfl, rfl⟩ : g = g' ∧ c = c' := by injection hsv with e1 _ e2; injection e1 with e1; injection e1 with e1; exact ⟨e1, e2⟩
    clear hsv hc1' hc2' hcg' hgB'
    have hbx := lt_of_block hg1.hx
    obtain ⟨-, c1, -⟩ := hg1.cells
    have k10 : W1.cell? ⟨g, s.rest.length * 14 + 10, none⟩ = some kv := hF 10 _ rfl
    have c1a : ∀ o, (W1.alloc o).cell? ⟨bx, 1, none⟩ = some (.slice (some ⟨g, 0, none⟩) (s.rest.length + 1) c) := fun o => (World.cell?_alloc_old W1 _ _ (Nat.ne_of_lt hbx)).trans c1
    have k10a : ∀ o, (W1.alloc o).cell? ⟨g, s.rest.length * 14 + 10, none⟩ = some kv := fun o => (World.cell?_alloc_old W1 _ _ (Nat.ne_of_lt hgl)).trans k10
    have pp := cell_of_heap' hP1
    have p0 : W1.cell? ⟨w.heap.size, 0, none⟩ = some (.int .u8 (h.kind : Nat)) := pp 0
    have p1 : W1.cell? ⟨w.heap.size, 1, none⟩ = some (.int .i64 h.pos) := pp 1
    have p2 : W1.cell? ⟨w.heap.size, 2, none⟩ = some (.string h.text) := pp 2
    have p3 : W1.cell? ⟨w.heap.size, 3, none⟩ = some (.bool h.root) := pp 3
    have p4 : W1.cell? ⟨w.heap.size, 4, none⟩ = some (.slice an h.names.length cn) := pp 4
    have p5 : W1.cell? ⟨w.heap.size, 5, none⟩ = some (.string h.name) := pp 5
    have p6 : W1.cell? ⟨w.heap.size, 6, none⟩ = some (.slice ak k.len ck) := pp 6
    have p7 : W1.cell? ⟨w.heap.size, 7, none⟩ = some (.slice ae e.len ce) := pp 7
    clear pp
    have pa : ∀ ob j, (W1.alloc ob).cell? ⟨w.heap.size, j, none⟩ = W1.cell? ⟨w.heap.size, j, none⟩ := fun ob j => World.cell?_alloc_old W1 _ _ (Nat.ne_of_lt hz)
    have r0 := fun ob => (pa ob 0).trans p0
    have r1 := fun ob => (pa ob 1).trans p1
    have r2 := fun ob => (pa ob 2).trans p2
    have r3 := fun ob => (pa ob 3).trans p3
    have r4 := fun ob => (pa ob 4).trans p4
    have r5 := fun ob => (pa ob 5).trans p5
    have r6 := fun ob => (pa ob 6).trans p6
    have r7 := fun ob => (pa ob 7).trans p7
    clear pa
    obtain ⟨ks, ⟨hownk, hcol⟩, hrow⟩ := hKd
    have hksl : ks.length = s.top.kids.len * 8 := hownk.1
    obtain ⟨ka, kc, rfl⟩ : ∃ a k, kv = .slice a s.top.kids.len k := (show OwnC B col W1 (6 + 2 * s.rest.length) 58 8 kv s.top.kids.len ks from ⟨hownk, hcol⟩).slice
    have hownA : ∀ o, (W1.alloc o).ownsRow B 58 8 (.slice ka s.top.kids.len kc) s.top.kids.len ks := fun o => World.ownsRow.alloc hownk o
    have hnewsA : ∀ j u, ([.int .u8 0, .int .i64 0, .string ⟨#[]⟩, .bool false, .slice none 0 0, .string ⟨#[]⟩, .slice none 0 0, .slice none 0 0] : List Value)[j]? = some u → (W1.alloc (.cells #[.int .u8 0, .int .i64 0, .string ⟨#[]⟩, .bool false, .slice none 0 0, .string ⟨#[]⟩, .slice none 0 0, .slice none 0 0] 58)).cell? ((⟨W1.heap.size, 0, none⟩ : Addr).add j) = some u := by
      intro j u hj
      have hb := heap_alloc_new W1 (.cells #[.int .u8 0, .int .i64 0, .string ⟨#[]⟩, .bool false, .slice none 0 0, .string ⟨#[]⟩, .slice none 0 0, .slice none 0 0] 58)
      have hadd : (⟨W1.heap.size, 0, none⟩ : Addr).add j = ⟨W1.heap.size, j, none⟩ := by unfold Addr.add; split <;> simp_all
      rw [hadd, cell_of_heap' hb]
      simpa using hj
    have hone : ∀ u ∈ ([.int .u8 0, .int .i64 0, .string ⟨#[]⟩, .bool false, .slice none 0 0, .string ⟨#[]⟩, .slice none 0 0, .slice none 0 0] : List Value), u.oneCell' = true := by
      intro u hu
      simp only [List.mem_cons, List.not_mem_nil, or_false] at hu
      rcases hu with rfl | rfl | rfl | rfl | rfl | rfl | rfl | rfl <;> rfl
    obtain ⟨i0, hi, hz0, hz1, hz2⟩ := info_parts infoPart
    have hBw1 : B ≤ W1.heap.size + 1 := by have := hg1.hB; omega
    have hnk : some g ≠ (Value.slice ka s.top.kids.len kc).ownBlock := fun e => by have := hcol g e.symm; omega
    have hLM : s.top.kids.len + 1 ≤ maxLen := by unfold maxLen; omega
    have hLB : (s.top.kids.len + 1) * 128 ≤ 140737488355328 := by omega
    have hnx : some bx ≠ (Value.slice ka s.top.kids.len kc).ownBlock := fun e => by have := hcol bx e.symm; rw [hg1.cx] at this; omega
    have hll : (s.top.kids.len : Int) < ((s.top.kids.len + 1 : Nat) : Int) := by omega
    have hll2 : (s.top.kids.len : Int) < (s.top.kids.len : Int) + 1 := by omega
    have kc : ∀ (w3 : World) (g2 cap2 : Nat), w3.ownsRow B 58 8 (.slice (some ⟨g2, 0, none⟩) (s.top.kids.len + 1) cap2) (s.top.kids.len + 1) (ks ++ [.int .u8 0, .int .i64 0, .string ⟨#[]⟩, .bool false, .slice none 0 0, .string ⟨#[]⟩, .slice none 0 0, .slice none 0 0]) → ∀ j, w3.cell? ⟨g2, s.top.kids.len * 8 + j, none⟩ = ([.int .u8 0, .int .i64 0, .string ⟨#[]⟩, .bool false, .slice none 0 0, .string ⟨#[]⟩, .slice none 0 0, .slice none 0 0] : List Value)[j]? ∨ 8 ≤ j := by
      intro w3 g2 cap2 h j
      rcases Nat.lt_or_ge j 8 with hj | hj
      · left
        obtain ⟨u, hu⟩ : ∃ u, ([.int .u8 0, .int .i64 0, .string ⟨#[]⟩, .bool false, .slice none 0 0, .string ⟨#[]⟩, .slice none 0 0, .slice none 0 0] : List Value)[j]? = some u := ⟨_, List.getElem?_eq_getElem (by simpa using hj)⟩
        rw [hu]
        exact (own_cells h).1 _ _ (by rw [List.getElem?_append_right (by omega), hksl]; simpa using hu)
      · exact .inr hj
    have KC := Lib.hid kc
    clear kc
    go_upto_region 3 with (fail)
    go_region_law (refine step_append_lies _ (by rfl) _ _ _ (by rfl) B 58 i0 _ 8 128 Tryz.underlying22 hi hz0 hz1 hz2 (by rfl) (by decide) (.slice ka s.top.kids.len kc) s.top.kids.len ks (by rfl) (by exact hownA _) ⟨W1.heap.size, 0, none⟩ 1 1 [.int .u8 0, .int .i64 0, .string ⟨#[]⟩, .bool false, .slice none 0 0, .string ⟨#[]⟩, .slice none 0 0, .slice none 0 0] (by rfl) (by rfl) (by exact hnewsA) hone (by decide) hLM hLB (by simp; omega) (W1.heap.size + 1) (by simp) ?_; intro g2 cap2 w2 hown2 hgrow2 hat2 hlt2; have hx2 := (hgrow2.block g (by simp; omega) hnk).trans (Below.heap_alloc _ _ _ hgl); have s10 : w2.cell? ⟨g, s.rest.length * 14 + 10, none⟩ = some (.slice ka s.top.kids.len kc) := ((World.cell?_of_block (w := W1) hx2).trans k10); have z10 : w2.frozen? ⟨g, s.rest.length * 14 + 10, none⟩ = false := (World.frozen?_of_block (w := W1) hx2).trans (hgz _); have s1 : w2.cell? ⟨bx, 1, none⟩ = some (.slice (some ⟨g, 0, none⟩) (s.rest.length + 1) c) := ((World.cell?_of_block (w := W1) ((hgrow2.block bx (by simp; omega) hnx).trans (Below.heap_alloc _ _ _ hbx))).trans c1); have hng : ¬ g = g2 := (fun e => by rcases hat2 with h | h; exact hnk (by rw [e]; exact h.symm); omega); have hng2 : ¬ g2 = g := (fun e => hng e.symm); have kz := (own_cells hown2).2; have k0 : w2.cell? ⟨g2, s.top.kids.len * 8, none⟩ = some (.int .u8 0) := (KC.out w2 g2 cap2 hown2 0).resolve_right (by decide); have k1 : w2.cell? ⟨g2, s.top.kids.len * 8 + 1, none⟩ = some (.int .i64 0) := (KC.out w2 g2 cap2 hown2 1).resolve_right (by decide); have k2 : w2.cell? ⟨g2, s.top.kids.len * 8 + 2, none⟩ = some (.string ⟨#[]⟩) := (KC.out w2 g2 cap2 hown2 2).resolve_right (by decide); have k3 : w2.cell? ⟨g2, s.top.kids.len * 8 + 3, none⟩ = some (.bool false) := (KC.out w2 g2 cap2 hown2 3).resolve_right (by decide); have k4 : w2.cell? ⟨g2, s.top.kids.len * 8 + 4, none⟩ = some (.slice none 0 0) := (KC.out w2 g2 cap2 hown2 4).resolve_right (by decide); have k5 : w2.cell? ⟨g2, s.top.kids.len * 8 + 5, none⟩ = some (.string ⟨#[]⟩) := (KC.out w2 g2 cap2 hown2 5).resolve_right (by decide); have k6 : w2.cell? ⟨g2, s.top.kids.len * 8 + 6, none⟩ = some (.slice none 0 0) := (KC.out w2 g2 cap2 hown2 6).resolve_right (by decide); have k7 : w2.cell? ⟨g2, s.top.kids.len * 8 + 7, none⟩ = some (.slice none 0 0) := (KC.out w2 g2 cap2 hown2 7).resolve_right (by decide))
    all_goals
      have hgr : (W1.alloc (.cells #[.int .u8 0, .int .i64 0, .string ⟨#[]⟩, .bool false, .slice none 0 0, .string ⟨#[]⟩, .slice none 0 0, .slice none 0 0] 58)).grownBy w2 (Value.slice ka s.top.kids.len kc).ownBlock := ⟨hgrow2.os, hgrow2.tape, hgrow2.output, hgrow2.size, hgrow2.block⟩
      have hsz2 : W1.heap.size ≤ w2.heap.size := by have := hgr.size; simp at this; omega
      have hbl2 : ∀ b, b < W1.heap.size → some b ≠ (Value.slice ka s.top.kids.len kc).ownBlock → w2.heap[b]? = W1.heap[b]? := fun b hb hn => (hgr.block b (by simp; omega) hn).trans (Below.heap_alloc _ _ _ hb)
      have HB2 := Lib.hid ((hb1.alloc hg1.hB (.cells #[.int .u8 0, .int .i64 0, .string ⟨#[]⟩, .bool false, .slice none 0 0, .string ⟨#[]⟩, .slice none 0 0, .slice none 0 0] 58)).grown hgr (by simp; omega) (fun k hk => (World.ownsRow.lt hownk k hk).1))
      have hgB2 : B ≤ g2 := (World.ownsRow.lt hown2 g2 rfl).1
      have hngX : g ≠ g2 := hng
      obtain ⟨hown4, hbl4, hsz4⟩ := own_last8 hksl hown2 (.int .u8 (h.kind : Nat)) (.int .i64 h.pos) (.string h.text) (.bool h.root) (.slice an h.names.length cn) (.string h.name) (.slice ak k.len ck) (.slice ae e.len ce)
      have HB5 := Lib.hid (((((((((HB2.out.setCell (p := ⟨g2, s.top.kids.len * 8, none⟩) hgB2 (.int .u8 (h.kind : Nat))).setCell (p := ⟨g2, s.top.kids.len * 8 + 1, none⟩) hgB2 (.int .i64 h.pos)).setCell (p := ⟨g2, s.top.kids.len * 8 + 2, none⟩) hgB2 (.string h.text)).setCell (p := ⟨g2, s.top.kids.len * 8 + 3, none⟩) hgB2 (.bool h.root)).setCell (p := ⟨g2, s.top.kids.len * 8 + 4, none⟩) hgB2 (.slice an h.names.length cn)).setCell (p := ⟨g2, s.top.kids.len * 8 + 5, none⟩) hgB2 (.string h.name)).setCell (p := ⟨g2, s.top.kids.len * 8 + 6, none⟩) hgB2 (.slice ak k.len ck)).setCell (p := ⟨g2, s.top.kids.len * 8 + 7, none⟩) hgB2 (.slice ae e.len ce)))
      have HSW := Lib.hid (fun v => set9_swap w2 g g2 (s.rest.length * 14 + 10) (s.top.kids.len * 8) v (.int .u8 (h.kind : Nat)) (.int .i64 h.pos) (.string h.text) (.bool h.root) (.slice an h.names.length cn) (.string h.name) (.slice ak k.len ck) (.slice ae e.len ce) hngX)
      generalize hW4 : World.setCell (World.setCell (World.setCell (World.setCell (World.setCell (World.setCell (World.setCell (World.setCell w2 _ _) _ _) _ _) _ _) _ _) _ _) _ _) _ _ = W4 at hown4 hbl4 hsz4 HB5 HSW
      have hF2 := Lib.hid (hg1.appended (w2 := W4) (h := h) (k := k) (e := e) hcg hown hcl hkl hfn hfk hStk hcol hrow hn1 hk1 he1 (by rw [hsz4]; exact hsz2) (fun b hb hn => (hbl4 b (fun e => by
        rcases hat2 with h | h
        · exact hn (by rw [e]; exact h.symm)
        · omega)).trans (hbl2 b hb hn)) hown4 (hat2.imp id (fun e => by omega)))
      have HB3 := Lib.hid (HB5.out.setCell (p := ⟨g, s.rest.length * 14 + 10, none⟩) hgB (.slice (some ⟨g2, 0, none⟩) (s.top.kids.len + 1) cap2))
      clear hbl2 hgr hgrow2 hownA hnewsA hone hF HB2
      go_wp2_with fail
      go_end0
      rw [HSW.out]
      exact ⟨rfl, HB3.out, hF2.out⟩
end Go.Proofs.YtdgcdjpjnhlihaaGreatDoor
