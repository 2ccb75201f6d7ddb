/- Contracts of the reader's top and count. No condition but the reader's form in memory. -/
import Derived.Test.YtepcpgdfbaklfaaGreatDoorMcTp0
import Derived.BigQuiet
import Derived.Deep.QuietTactic
import Derived.StillTailTactics
import Derived.Test.YtepcpgdfbaklfaaGreatDoorMcMath
import Derived.Defers
import Derived.Recover
import Derived.Laws.Pointers
import Derived.WalkSpells
import Derived.WalkLawsBesides
set_option linter.unusedVariables false
namespace Go.Proofs.YtepcpgdfbaklfaaGreatDoor
open Go.RowKit Go.Shelf
theorem RdG.cells {B q bx : Nat} {s : St} {col : Nat → Nat} {bs : List Nat} {sv dv cv : Value} {w : World} (h : RdG B q bx s col bs sv dv cv w) :
 w.cell? ⟨bx, 0, none⟩ = some sv ∧ w.cell? ⟨bx, 1, none⟩ = some (.slice none 0 0) ∧ w.cell? ⟨bx, 2, none⟩ = some dv ∧ w.cell? ⟨bx, 3, none⟩ = some (.int .i64 (s.many : Nat)) ∧ w.cell? ⟨bx, 4, none⟩ = some cv ∧ (∀ j, w.frozen? ⟨bx, j, none⟩ = false) :=
 ⟨by rw [cell_of_heap' h.hx]; rfl, by rw [cell_of_heap' h.hx]; rfl, by rw [cell_of_heap' h.hx]; rfl, by rw [cell_of_heap' h.hx]; rfl, by rw [cell_of_heap' h.hx]; rfl, frozen_cells h.hx⟩
theorem ownsRow.elems {w : World} {B n sz : Nat} {e : TypeId} {v : Value} {xs : List Value} (h : w.ownsRow B e sz v n xs) (hn : 0 < n) :
 ∃ g c, v = .slice (some ⟨g, 0, none⟩) n c ∧ B ≤ g ∧ g < w.heap.size ∧ n ≤ c ∧ c ≤ maxLen ∧ ∀ j u, xs[j]? = some u → w.cell? ⟨g, j, none⟩ = some u := by
 rcases h.2 with ⟨rfl, h0⟩ | ⟨g, cap, cur, rfl, hB, hg, h1, h2, h3, ht⟩
 · omega
 · refine ⟨g, cap, rfl, hB, lt_of_block hg, h1, h2, fun j u hj => ?_⟩
   rw [cell_of_heap' hg, ← Array.getElem?_toList]
   rw [← ht, List.getElem?_take] at hj
   split at hj
   · exact hj
   · cases hj
theorem ptrs_top (fb : Nat) (bs : List Nat) : (ptrs (fb :: bs))[bs.length]? = some (.pointer (some ⟨fb, 0, none⟩)) := by
 simp [ptrs]
theorem RdG.top {B q bx : Nat} {s : St} {col : Nat → Nat} {bs : List Nat} {sv dv cv : Value} {w : World} (h : RdG B q bx s col bs sv dv cv w) :
 ∃ fb bs' g c, bs = fb :: bs' ∧ bs'.length = s.rest.length ∧ sv = .slice (some ⟨g, 0, none⟩) (s.rest.length + 1) c ∧ s.rest.length + 1 ≤ c ∧ c ≤ maxLen ∧ col g = 2 ∧ FrM B col w q s.rest.length fb s.top ∧ StackM B col w q s.rest bs' ∧ w.cell? ⟨g, s.rest.length, none⟩ = some (.pointer (some ⟨fb, 0, none⟩)) := by
 obtain ⟨fb, bs', rfl, h1, h2⟩ := h.fr
 obtain ⟨g, c, hv, hB, hlt, h3, h4, h5⟩ := ownsRow.elems h.st.1 (Nat.succ_pos _)
 have hl := StackM.len _ _ h2
 refine ⟨fb, bs', g, c, rfl, hl, hv, h3, h4, h.st.2 g (by rw [hv]; rfl), h1, h2, ?_⟩
 apply h5
 rw [← hl]; exact ptrs_top fb bs'
theorem RdG.top' {B q bx fb n g c : Nat} {s : St} {col : Nat → Nat} {bs : List Nat} {dv cv : Value} {w : World} (h : RdG B q bx s col (fb :: bs) (.slice (some ⟨g, 0, none⟩) n c) dv cv w) :
 FrM B col w q s.rest.length fb s.top ∧ StackM B col w q s.rest bs ∧ w.cell? ⟨g, s.rest.length, none⟩ = some (.pointer (some ⟨fb, 0, none⟩)) := by
 obtain ⟨fb', bs', g', c', hb, -, hv, -, -, -, hF, hS, hc⟩ := h.top
 injection hb with e1 e2
 injection hv with e3
 injection e3 with e3
 injection e3 with e3
 subst e1; subst e2; subst e3
 exact ⟨hF, hS, hc⟩
def Sl (w w' : World) : Prop := w'.heap = w.heap ∧ w'.os = w.os ∧ w'.tape = w.tape ∧ w'.output = w.output
theorem Sl.below {w w' : World} (h : Sl w w') (B : Nat) : Below B w w' := ⟨h.2.1, h.2.2.1, h.2.2.2, by rw [h.1]; exact Nat.le_refl _, fun _ _ => by rw [h.1]⟩
theorem Sl.drew (w : World) : Sl w w.drew := ⟨rfl, rfl, rfl, rfl⟩
theorem Sl.drewN (w : World) (n : Nat) : Sl w (w.drewN n) := ⟨rfl, rfl, rfl, rfl⟩
theorem Sl.trans {a b c : World} (h : Sl a b) (k : Sl b c) : Sl a c := ⟨k.1.trans h.1, k.2.1.trans h.2.1, k.2.2.1.trans h.2.2.1, k.2.2.2.trans h.2.2.2⟩
theorem Sl.same {w w' : World} (h : Sl w w') (C : Nat → Prop) (col : Nat → Nat) : Same C col col w w' := ⟨by rw [h.1]; exact Nat.le_refl _, fun b _ _ => ⟨rfl, by rw [h.1]⟩⟩
theorem Sl.cell {w w' : World} (h : Sl w w') {a : Addr} {v : Value} (hc : w.cell? a = some v) : w'.cell? a = some v := (World.cell?_of_block (w := w) (by rw [h.1])).trans hc
theorem Sl.frozen {w w' : World} (h : Sl w w') {a : Addr} {v : Bool} (hc : w.frozen? a = v) : w'.frozen? a = v := (World.frozen?_of_block (w := w) (by rw [h.1])).trans hc
theorem RdG.same {C : Nat → Prop} {B q q' bx : Nat} {s : St} {col col' : Nat → Nat} {bs : List Nat} {sv dv cv : Value} {w w' : World} (hs : Same C col col' w w') (hC : ∀ c, C c) (hq : q ≤ q') (h : RdG B q bx s col bs sv dv cv w) : RdG B q' bx s col' bs sv dv cv w' :=
 ⟨h.bb, (hs.2 bx (lt_of_block h.hx) (hC _)).1.trans h.cx, (hs.2 bx (lt_of_block h.hx) (hC _)).2.trans h.hx, h.st.same hs (hC _), h.fr.same hs (hC _) hq _ _ (fun i _ => ⟨hC _, hC _⟩), h.df.same hs (hC _) (hC _), h.cl.same hs (hC _),
  h.l1, h.l2, Nat.le_trans h.l3 hq, Nat.le_trans h.l4 hq, Nat.le_trans h.hB hs.1, fun b hb => (hs.2 b (Nat.lt_of_lt_of_le hb h.hB) (hC _)).1.trans (h.ol b hb)⟩
theorem RdG.turn {B q bx : Nat} {s s' : St} {col : Nat → Nat} {bs : List Nat} {sv dv cv : Value} {w w' : World} (h : RdG B q bx s col bs sv dv cv w) (hs : Same (fun c => c ≠ 1) col col w w')
 (hx : w'.heap[bx]? = some (.cells (rdCells sv dv s'.many cv) 103 (0, 0))) (ht : s'.top = s.top) (hr : s'.rest = s.rest) (hd : s'.defs = s.defs) (hcl : s'.calls = s.calls) (hm : s'.many ≤ 1024) : RdG B q bx s' col bs sv dv cv w' := by
 refine ⟨h.bb, h.cx, hx, ?_, ?_, ?_, ?_, hm, ?_, ?_, ?_, Nat.le_trans h.hB hs.1, h.ol⟩
 · rw [hr]; exact h.st.same hs (by decide)
 · rw [ht, hr]; exact h.fr.same hs (by decide) (Nat.le_refl _) _ _ (fun i _ => ⟨by omega, by omega⟩)
 · rw [hd]; exact h.df.same hs (by decide) (by decide)
 · rw [hcl]; exact h.cl.same hs (by decide)
 · rw [hr]; exact h.l2
 · rw [hd]; exact h.l3
 · rw [hcl]; exact h.l4
theorem same_set (col : Nat → Nat) (w : World) (b j c : Nat) (v : Value) (hc : col b = c) : Same (fun k => k ≠ c) col col w (w.setCell ⟨b, j, none⟩ v) :=
 ⟨by simp [World.setCell], fun b' _ hne => ⟨rfl, Below.heap_setCell _ _ _ _ (fun e => hne (by rw [e]; exact hc))⟩⟩
theorem top_cells (bx g n fb : Nat) (c : Nat) (w : World) (hn : n ≤ 64) (hc : n + 1 ≤ c) (hm : c ≤ maxLen) (h0 : w.cell? ⟨bx, 0, none⟩ = some (.slice (some ⟨g, 0, none⟩) (n + 1) c)) (h1 : w.cell? ⟨g, n, none⟩ = some (.pointer (some ⟨fb, 0, none⟩))) :
 Calls Tryz.prog 77 #[.pointer (some ⟨bx, 0, none⟩)] w fun e w' => e = .returned (.pointer (some ⟨fb, 0, none⟩)) ∧ w.drew = w' := by
 have wn : IntKind.i64.wrap (((n + 1 : Nat) : Int) + -1) = (n : Int) := by rw [IntWalk.i64_in _ (by omega)]; omega
 have wz : (0 : Int) ≤ (n : Int) := by omega
 have wl : (n : Int) < ((n + 1 : Nat) : Int) := by omega
 go_enter Tryz.func77, Tryz.ntmps77
 go_wp2
 go_region
 all_goals (go_wp2; go_ret; exact ⟨rfl, rfl⟩)
theorem count_cells (B bx at_ m : Nat) (hm : m ≤ 1024) (hat : at_ ≤ 16777216) (w : World) (h : w.cell? ⟨bx, 3, none⟩ = some (.int .i64 (m : Nat))) (fz : w.frozen? ⟨bx, 3, none⟩ = false) :
 Calls Tryz.prog 76 #[.pointer (some ⟨bx, 0, none⟩), .int .i64 (at_ : Nat)] w fun e w' =>
  e = (if 1024 < m + 1 then .panicked [{ v := .iface 84 (.agg #[.int .i64 196, .int .i64 (at_ : Nat)]), recovered := false }] else .returned (.tuple #[])) ∧ w.setCell ⟨bx, 3, none⟩ (.int .i64 ((m + 1 : Nat) : Int)) = w' := by
 have wv : IntKind.i64.wrap ((m : Int) + 1) = (m : Int) + 1 := IntWalk.i64_in _ (by omega)
 have we : ((m + 1 : Nat) : Int) = (m : Int) + 1 := by omega
 by_cases hgt : 1024 < m + 1
 · have hgt' : (1024 : Int) < (m : Int) + 1 := by omega
   rw [if_pos hgt, we]
   clear hgt
   go_enter Tryz.func76, Tryz.ntmps76
   go_wp2_with fail
   exact ⟨rfl, rfl, rfl⟩
 · have hgt' : ¬ (1024 : Int) < (m : Int) + 1 := by omega
   rw [if_neg hgt, we]
   go_enter Tryz.func76, Tryz.ntmps76
   go_wp2_with fail
   go_end0
   exact ⟨rfl, rfl⟩
theorem RdG.counted {B q bx : Nat} {s : St} {col : Nat → Nat} {bs : List Nat} {sv dv cv : Value} {w : World} (h : RdG B q bx s col bs sv dv cv w) (hm : s.many + 1 ≤ 1024) :
 RdG B q bx { s with many := s.many + 1 } col bs sv dv cv (w.setCell ⟨bx, 3, none⟩ (.int .i64 ((s.many + 1 : Nat) : Int))) := by
 refine h.turn (same_set col w bx 3 1 _ h.cx) ?_ rfl rfl rfl rfl hm
 have hx := h.hx
 unfold rdCells at *
 simp [World.setCell, Array.getElem?_modify, hx]
def hdCells (h : Hd) (vn vk ve : Value) : List Value := [.int .u8 (h.kind : Nat), .int .i64 h.pos, .string h.text, .bool h.root, vn, .string h.name, vk, ve]
def dye (col : Nat → Nat) (g c b : Nat) : Nat := if b = g then c else col b
theorem set_cells {w : World} {b j : Nat} {cs : Array Value} {T : TypeId} (h : w.heap[b]? = some (.cells cs T (0, 0))) (v : Value) : (w.setCell ⟨b, j, none⟩ v).heap[b]? = some (.cells (cs.setIfInBounds j v) T (0, 0)) := by
 simp [World.setCell, Array.getElem?_modify, h]
theorem RdG.appended {B q bx fb : Nat} {s : St} {col : Nat → Nat} {bs : List Nat} {sv dv cv : Value} {w w2 : World} (hg : RdG B q bx s col (fb :: bs) sv dv cv w)
 {vn vk kv : Value} (hfb : B ≤ fb) (hcf : col fb = 5 + 2 * s.rest.length) (hkl : s.top.kids.len ≤ q) (hfh : w.heap[fb]? = some (.cells (frCells s.top vn vk kv) 100 (0, 0))) (hfn : Strs (Ok col w) w vn (s.top.names.map mkB)) (hfk : Parts (Ok col w) w vk s.top.fst)
 (hS : StackM B col w q s.rest bs) {cs : List Value} (hcol : ∀ g, kv.ownBlock = some g → col g = 6 + 2 * s.rest.length) (hrow : RowC (Ok col w) w s.top.kids cs)
 {h : Hd} {k e : Pt} {vn' vk' ve' : Value} (hn : Strs (Ok col w) w vn' h.names) (hk : Parts (Ok col w) w vk' k) (he : Parts (Ok col w) w ve' e)
 (hsz : w.heap.size ≤ w2.heap.size) (hbl : ∀ b, b < w.heap.size → some b ≠ kv.ownBlock → w2.heap[b]? = w.heap[b]?) {g2 cap2 : Nat}
 (hown : w2.ownsRow B 56 8 (.slice (some ⟨g2, 0, none⟩) (s.top.kids.len + 1) cap2) (s.top.kids.len + 1) (cs ++ hdCells h vn' vk' ve')) (hat : kv.ownBlock = some g2 ∨ w.heap.size ≤ g2) :
 RdM B (q + 1) bx (s.put h k e) (w2.setCell ⟨fb, 13, none⟩ (.slice (some ⟨g2, 0, none⟩) (s.top.kids.len + 1) cap2)) := by
 have hlt := lt_of_block hfh
 have hdye : ∀ b, b < w.heap.size → col b ≠ 6 + 2 * s.rest.length → dye col g2 (6 + 2 * s.rest.length) b = col b := by
  intro b hb hc
  unfold dye
  rw [if_neg]
  rintro rfl
  rcases hat with h1 | h1
  · exact hc (hcol _ h1)
  · omega
 have hne : fb ≠ g2 := by
  rintro rfl
  rcases hat with h1 | h1
  · have := hcol _ h1; omega
  · omega
 have hg2 : g2 < w2.heap.size := by
  rcases hown.2 with ⟨h0, -⟩ | ⟨g, cap, cur, h1, h2, h3, -⟩
  · cases h0
  · injection h1 with h1; injection h1 with h1; injection h1 with h1; rw [h1]; exact lt_of_block h3
 have hS3 : Same (fun c => c ≠ 5 + 2 * s.rest.length ∧ c ≠ 6 + 2 * s.rest.length) col (dye col g2 (6 + 2 * s.rest.length)) w (w2.setCell ⟨fb, 13, none⟩ (.slice (some ⟨g2, 0, none⟩) (s.top.kids.len + 1) cap2)) := by
  refine ⟨by simp [World.setCell]; exact hsz, fun b hb hc => ⟨hdye b hb hc.2, ?_⟩⟩
  rw [Below.heap_setCell _ _ _ _ (fun e => by have e2 : b = fb := e; rw [e2] at hc; exact hc.1 hcf)]
  exact hbl b hb (fun e => hc.2 (hcol b e.symm))
 have hfh2 : w2.heap[fb]? = some (.cells (frCells s.top vn vk kv) 100 (0, 0)) := (hbl fb hlt (fun e => by have := hcol fb e.symm; omega)).trans hfh
 have c0 : (fun c => c ≠ 5 + 2 * s.rest.length ∧ c ≠ 6 + 2 * s.rest.length) 0 := ⟨by omega, by omega⟩
 have hF3 : FrM B (dye col g2 (6 + 2 * s.rest.length)) (w2.setCell ⟨fb, 13, none⟩ (.slice (some ⟨g2, 0, none⟩) (s.top.kids.len + 1) cap2)) (q + 1) s.rest.length fb { s.top with kids := s.top.kids.app (.one h k e) } := by
  refine ⟨hfb, (hdye fb hlt (by omega)).trans hcf, ?_, vn, vk, .slice (some ⟨g2, 0, none⟩) (s.top.kids.len + 1) cap2, ?_, hS3.strs c0 hfn, hS3.parts c0 hfk, ?_⟩
  · show (s.top.kids.app (.one h k e)).len ≤ q + 1
    rw [Pt.len_app]; simp only [Pt.one, Pt.len]; omega
  · exact set_cells (j := 13) hfh2 (.slice (some ⟨g2, 0, none⟩) (s.top.kids.len + 1) cap2)
  · refine ⟨cs ++ hdCells h vn' vk' ve', ⟨?_, ?_⟩, ?_⟩
    · show World.ownsRow _ _ _ _ _ (s.top.kids.app (.one h k e)).len _
      rw [Pt.len_app]
      refine ⟨hown.1, .inr ?_⟩
      rcases hown.2 with ⟨h0, -⟩ | ⟨g, cap, cur, h1, h2, h3, h4⟩
      · cases h0
      · refine ⟨g, cap, cur, h1, h2, ?_, h4⟩
        rw [Below.heap_setCell _ _ _ _ (fun e => by
         have e2 : g = fb := e
         injection h1 with h1; injection h1 with h1; injection h1 with h1
         exact hne (by rw [h1, e2]))]
        exact h3
    · intro g hg
      have : g2 = g := by simpa [Value.ownBlock] using hg
      subst this
      unfold dye; rw [if_pos rfl]
    · exact RowC.app _ _ _ _ (RowC.same hS3 c0 _ _ hrow) ⟨vn', vk', ve', [], by simp [hdCells], hS3.strs c0 hn, hS3.parts c0 hk, hS3.parts c0 he, rfl⟩
 have hfr : StackM B (dye col g2 (6 + 2 * s.rest.length)) (w2.setCell ⟨fb, 13, none⟩ (.slice (some ⟨g2, 0, none⟩) (s.top.kids.len + 1) cap2)) (q + 1) ({ s.top with kids := s.top.kids.app (.one h k e) } :: s.rest) (fb :: bs) :=
  ⟨fb, bs, rfl, hF3, hS.same hS3 c0 (Nat.le_succ q) _ _ (fun i hi => ⟨⟨by omega, by omega⟩, ⟨by omega, by omega⟩⟩)⟩
 exact ⟨dye col g2 (6 + 2 * s.rest.length), fb :: bs, sv, dv, cv, {
  bb := hg.bb
  cx := (hS3.2 bx (lt_of_block hg.hx) (by rw [hg.cx]; omega)).1.trans hg.cx
  hx := (hS3.2 bx (lt_of_block hg.hx) (by rw [hg.cx]; omega)).2.trans hg.hx
  st := hg.st.same hS3 ⟨by omega, by omega⟩
  fr := hfr
  df := hg.df.same hS3 c0 ⟨by omega, by omega⟩
  cl := hg.cl.same hS3 ⟨by omega, by omega⟩
  l1 := hg.l1
  l2 := hg.l2
  l3 := Nat.le_succ_of_le hg.l3
  l4 := Nat.le_succ_of_le hg.l4
  hB := Nat.le_trans hg.hB hS3.1
  ol := fun b hb => (hS3.2 b (Nat.lt_of_lt_of_le hb hg.hB) (by rw [hg.ol b hb]; omega)).1.trans (hg.ol b hb) }⟩
def New (w w' : World) (b : Nat) : Prop := w.heap.size ≤ b ∧ b < w'.heap.size ∧ UnF w' b
def WayR (w : World) (r : Option (Bool × List By)) (e : Ending) (w' : World) : Prop := Below w.heap.size w w' ∧ match r with
 | none => e = .returned (.tuple #[.agg #[.bool false, .slice none 0 0], .bool false])
 | some p => ∃ v, e = .returned (.tuple #[.agg #[.bool p.1, v], .bool true]) ∧ Strs (New w w') w' v (p.2.map mkB)
theorem results_way {fn : Func} {k i : Tmp} {b : Nat} {x y : Value} {tmps : Array Value} {w : World} (h : fn.results = #[.cell k 54, .tmp i]) (hk : tmps.getD k undef = .pointer (some ⟨b, 0, none⟩)) (hb : w.heap[b]? = some (.cells #[x, y] 54 (0, 0))) :
 (results fn tmps).run Tryz.prog w = .ok (.tuple #[.agg #[x, y], tmps.getD i undef]) w := by
 have c := fun j => cell_of_heap' hb j
 have c0 : w.cell? ⟨b, 0, none⟩ = some x := c 0
 have c1 : w.cell? ⟨b, 1, none⟩ = some y := c 1
 have hk' : tmps[k]?.getD undef = .pointer (some ⟨b, 0, none⟩) := by rw [← hk]; simp
 clear c hb hk
 simp [results, h, hk', go_sem, c0, c1]
theorem results_path {fn : Func} {k : Tmp} {b : Nat} {x y : Value} {tmps : Array Value} {w : World} (h : fn.results = #[.cell k 54]) (hk : tmps.getD k undef = .pointer (some ⟨b, 0, none⟩)) (hb : w.heap[b]? = some (.cells #[x, y] 54 (0, 0))) :
 (results fn tmps).run Tryz.prog w = .ok (.agg #[x, y]) w := by
 have c := fun j => cell_of_heap' hb j
 have c0 : w.cell? ⟨b, 0, none⟩ = some x := c 0
 have c1 : w.cell? ⟨b, 1, none⟩ = some y := c 1
 have hk' : tmps[k]?.getD undef = .pointer (some ⟨b, 0, none⟩) := by rw [← hk]; simp
 clear c hb hk
 simp [results, h, hk', go_sem, c0, c1]
theorem two_cells {w : World} {b : Nat} {cs : Array Value} {T : TypeId} (h : w.heap[b]? = some (.cells cs T (0, 0))) (hs : cs.size = 2) (x y : Value) : ((w.setCell ⟨b, 0, none⟩ x).setCell ⟨b, 1, none⟩ y).heap[b]? = some (.cells #[x, y] T (0, 0)) := by
 rw [set_cells (j := 1) (set_cells (j := 0) h x) y]
 obtain ⟨l⟩ := cs
 match l, hs with
 | [a, c], _ => rfl
theorem strs_sets {w w4 : World} {v : Value} {l : List ByteArray} (h : Strs (fun b => w.heap.size + 1 ≤ b ∧ b < w4.heap.size ∧ UnF w4 b) w4 v l) (x y : Value) : Strs (New w ((w4.setCell ⟨w.heap.size, 0, none⟩ x).setCell ⟨w.heap.size, 1, none⟩ y)) ((w4.setCell ⟨w.heap.size, 0, none⟩ x).setCell ⟨w.heap.size, 1, none⟩ y) v l := by
 have hk : ∀ b, w.heap.size + 1 ≤ b → ((w4.setCell ⟨w.heap.size, 0, none⟩ x).setCell ⟨w.heap.size, 1, none⟩ y).heap[b]? = w4.heap[b]? := fun b hb => by
  have hne : b ≠ w.heap.size := by omega
  rw [Below.heap_setCell _ _ _ _ hne, Below.heap_setCell _ _ _ _ hne]
 exact (h.kept (fun b hb => hk b hb.1)).mono (fun b hb => ⟨by have := hb.1; omega, by simpa [World.setCell] using hb.2.1, hb.2.2.same (hk b hb.1)⟩)
theorem way_end (s : ByteArray) (hs : s.size ≤ 16777216) (w : World) (U : ByteArray) (hU : (⟨(Lib.trimPrefix s.data.toList [36]).toArray⟩ : ByteArray) = U) (hh : Lib.hasPrefix s.data.toList [36] = true) (he : U.toList.isEmpty = true) :
 Calls Tryz.prog 126 #[.string s] w (WayR w (some (true, []))) := by
 have CP := Tryz.strings_CutPrefix s ⟨#[36]⟩
 rw [show (⟨#[36]⟩ : ByteArray).data.toList = [36] from rfl, hU, hh] at CP
 have HB := Lib.hid ((Below.refl w.heap.size w).alloc (Nat.le_refl _) (.cells #[.bool true, .slice none 0 0] 54))
 go_enter Tryz.func126, Tryz.ntmps126
 go_wp2_with fail
 refine (CP _).mono ?_
 rintro e w1 ⟨rfl, rfl⟩
 go_wp2_with fail
 exact bodyPost_ret (results_way rfl rfl (heap_alloc_new w _)) rfl ⟨HB.out, _, rfl, Strs.nil _ _⟩
theorem way_dot (s : ByteArray) (hs : s.size ≤ 16777216) (w : World) (U : ByteArray) (hU : (⟨(Lib.trimPrefix s.data.toList [36]).toArray⟩ : ByteArray) = U) (hh : Lib.hasPrefix s.data.toList [36] = false) (he : (s.toList == [46]) = true) :
 Calls Tryz.prog 126 #[.string s] w (WayR w (some (false, []))) := by
 have CP := Tryz.strings_CutPrefix s ⟨#[36]⟩
 rw [show (⟨#[36]⟩ : ByteArray).data.toList = [36] from rfl, hU, hh] at CP
 have HB := Lib.hid ((Below.refl w.heap.size w).alloc (Nat.le_refl _) (.cells #[.bool false, .slice none 0 0] 54))
 go_enter Tryz.func126, Tryz.ntmps126
 go_wp2_with fail
 refine (CP _).mono ?_
 rintro e w1 ⟨rfl, rfl⟩
 go_wp2_with fail
 exact bodyPost_ret (results_way rfl rfl (heap_alloc_new w _)) rfl ⟨HB.out, _, rfl, Strs.nil _ _⟩
theorem way_none (s : ByteArray) (hs : s.size ≤ 16777216) (w : World) (T V : ByteArray) (b : Bool) (hU : (⟨(Lib.trimPrefix s.data.toList [36]).toArray⟩ : ByteArray) = T) (hh : Lib.hasPrefix s.data.toList [36] = b) (h1 : b = true → T.toList.isEmpty = false) (h2 : b = false → (s.toList == [46]) = false)
 (hV : (⟨(Lib.trimPrefix T.data.toList [46]).toArray⟩ : ByteArray) = V) (hd : Lib.hasPrefix T.data.toList [46] = false) :
 Calls Tryz.prog 126 #[.string s] w (WayR w none) := by
 have CP := Tryz.strings_CutPrefix s ⟨#[36]⟩
 rw [show (⟨#[36]⟩ : ByteArray).data.toList = [36] from rfl, hU, hh] at CP
 have CQ := Tryz.strings_CutPrefix T ⟨#[46]⟩
 rw [show (⟨#[46]⟩ : ByteArray).data.toList = [46] from rfl, hV, hd] at CQ
 have HB := Lib.hid ((Below.refl w.heap.size w).alloc (Nat.le_refl _) (.cells #[.bool false, .slice none 0 0] 54))
 cases b
 all_goals
  have f1 := h1
  have f2 := h2
  simp only [forall_const, Bool.true_eq_false, Bool.false_eq_true, false_implies] at f1 f2
  clear h1 h2 hU hh hV hd
  go_enter Tryz.func126, Tryz.ntmps126
  go_wp2_with fail
  refine (CP _).mono ?_
  rintro e w1 ⟨rfl, rfl⟩
  go_wp2_with fail
  refine (CQ _).mono ?_
  rintro e w1 ⟨rfl, rfl⟩
  go_wp2_with fail
  exact bodyPost_ret (results_way rfl rfl (heap_alloc_new w _)) rfl ⟨HB.out, rfl⟩
theorem split_calls (U : ByteArray) (hs : U.size ≤ 16777216) (l : List By) (hl : splitP (· == 46) (bl U) = l) (w : World) (hsh : Sh w) :
 Calls Tryz.prog 151 #[.string U, .string ⟨#[46]⟩] w fun e w' => e = .returned (.slice (some ⟨w.heap.size, 0, none⟩) l.length l.length) ∧ Below w.heap.size w w' ∧ w.heap.size < w'.heap.size ∧ Strs (New w w') w' (.slice (some ⟨w.heap.size, 0, none⟩) l.length l.length) (l.map mkB) := by
 obtain ⟨m, hm⟩ := hsh
 have hlen := splitB_len 46 U
 have heq := splitB_eq 46 _ U rfl
 rw [hl] at heq
 have hll : l.length = Lib.countB U ⟨#[46]⟩ + 1 := by rw [← heq, List.length_map, hlen]
 have hL : Lib.splitB ⟨#[46]⟩ 0 (Lib.countB U ⟨#[46]⟩) U = l.map mkB := by
  rw [← heq, List.map_map]
  conv => lhs; rw [← List.map_id (Lib.splitB ⟨#[46]⟩ 0 (Lib.countB U ⟨#[46]⟩) U)]
  apply List.map_congr_left
  intro x _; exact (mkB_bl x).symm
 have hle : l.length ≤ maxLen := by rw [← hl]; have := splitP_size (· == 46) U; unfold maxLen; omega
 refine (Tryz.strings_Split U ⟨#[46]⟩ m w (by omega) hm (Nat.le_refl 1)).mono ?_
 rintro e w' ⟨rfl, rfl⟩
 refine ⟨by rw [hll], (Below.refl _ w).alloc (Nat.le_refl _) _, by simp, some ⟨w.heap.size, 0, none⟩, l.length, by simp, by simp, hle, fun _ => ⟨w.heap.size, 0, rfl, ⟨Nat.le_refl _, by simp, frozen_cells (heap_alloc_new w _)⟩, fun i s hi => ?_⟩⟩
 rw [cell_of_heap' (heap_alloc_new w _), hL]
 rw [Nat.zero_add]
 simp only [List.getElem?_toArray, List.getElem?_map] at hi ⊢
 rw [hi]; rfl
set_option maxHeartbeats 1000000 in
theorem way_names (s : ByteArray) (hs : s.size ≤ 16777216) (w : World) (hsh : Sh w) (T V : ByteArray) (b : Bool) (hU : (⟨(Lib.trimPrefix s.data.toList [36]).toArray⟩ : ByteArray) = T) (hh : Lib.hasPrefix s.data.toList [36] = b) (h1 : b = true → T.toList.isEmpty = false) (h2 : b = false → (s.toList == [46]) = false)
 (hV : (⟨(Lib.trimPrefix T.data.toList [46]).toArray⟩ : ByteArray) = V) (hVs : V.size ≤ 16777216) (hd : Lib.hasPrefix T.data.toList [46] = true) :
 Calls Tryz.prog 126 #[.string s] w (WayR w (if namesOk (splitP (· == 46) (bl V)) then some (b, splitP (· == 46) (bl V)) else none)) := by
 have CP := Tryz.strings_CutPrefix s ⟨#[36]⟩
 rw [show (⟨#[36]⟩ : ByteArray).data.toList = [36] from rfl, hU, hh] at CP
 have CQ := Tryz.strings_CutPrefix T ⟨#[46]⟩
 rw [show (⟨#[46]⟩ : ByteArray).data.toList = [46] from rfl, hV, hd] at CQ
 obtain ⟨l, hl⟩ : ∃ l, splitP (· == 46) (bl V) = l := ⟨_, rfl⟩
 have hsz : ∀ x ∈ l.map mkB, x.size ≤ 140737488351232 := by
  intro x hx
  obtain ⟨y, hy, rfl⟩ := List.mem_map.1 hx
  rw [← hl] at hy
  have := splitP_le _ _ y hy
  have h3 := mkB_size y
  have h4 := bl_len V
  omega
 have hln : l.length ≤ 16777217 := by rw [← hl]; have := splitP_size (· == 46) V; omega
 rw [hl]
 have hbls : bls (l.map mkB) = l := bls_mk l
 have hb1 : Below w.heap.size w (w.alloc (.cells #[.bool b, .slice none 0 0] 54)) := (Below.refl w.heap.size w).alloc (Nat.le_refl _) _
 have SP := Lib.hid (split_calls V hVs l hl (w.alloc (.cells #[.bool b, .slice none 0 0] 54)) (hsh.below hb1))
 have hn1 := heap_alloc_new w (.cells #[.bool b, .slice none 0 0] 54)
 have HB := Lib.hid hb1
 have hW1 : (w.alloc (.cells #[.bool b, .slice none 0 0] 54)).heap.size = w.heap.size + 1 := by simp
 have NMD := Lib.hid (fun (W : World) (v : Value) (h : Strs (New w W) W v (l.map mkB)) => named_calls (New w W) (l.map mkB) (by simp; omega) hsz v W h (fun b hb => hb.2.1))
 rw [hbls] at NMD
 have HN1 := Lib.hid hn1
 have HSZ := Lib.hid hW1
 clear hsz hbls hl hb1 hn1 hW1 hs hVs
 cases hv : namesOk l
 all_goals
  rw [hv] at NMD
  clear hv
  cases b
  all_goals
   have f1 := h1
   have f2 := h2
   simp only [forall_const, Bool.true_eq_false, Bool.false_eq_true, false_implies] at f1 f2
   clear h1 h2 hU hh hV hd
   go_enter Tryz.func126, Tryz.ntmps126
   go_wp2_with fail
   refine (CP _).mono ?_
   rintro e w1 ⟨rfl, rfl⟩
   go_wp2_with fail
   refine (CQ _).mono ?_
   rintro e w1 ⟨rfl, rfl⟩
   go_wp2_with fail
   refine SP.out.mono ?_
   rintro e w2 ⟨rfl, hb2, hlt2, hst2⟩
   rw [HSZ.out] at hb2 hlt2 hst2
   rw [HSZ.out]
   have hn2 := (hb2.block w.heap.size (by omega)).trans HN1.out
   have q1 : w2.cell? ⟨w.heap.size, 1, none⟩ = some (.slice none 0 0) := by rw [cell_of_heap' hn2]; rfl
   have qz := frozen_cells hn2
   have hb02 : Below w.heap.size w w2 := HB.out.trans (hb2.mono (by omega))
   have hn3 := set_cells (j := 1) hn2 (.slice (some ⟨w.heap.size + 1, 0, none⟩) l.length l.length)
   have hb03 : Below w.heap.size w (w2.setCell ⟨w.heap.size, 1, none⟩ (.slice (some ⟨w.heap.size + 1, 0, none⟩) l.length l.length)) := hb02.setCell (p := ⟨w.heap.size, 1, none⟩) (Nat.le_refl _) _
   obtain ⟨W3, hW3⟩ : ∃ W3, w2.setCell ⟨w.heap.size, 1, none⟩ (.slice (some ⟨w.heap.size + 1, 0, none⟩) l.length l.length) = W3 := ⟨_, rfl⟩
   replace hst2 : Strs (fun b => w.heap.size + 1 ≤ b ∧ b < w2.heap.size ∧ UnF w2 b) w2 (.slice (some ⟨w.heap.size + 1, 0, none⟩) l.length l.length) (l.map mkB) := hst2.mono (fun b hb => ⟨by have := hb.1; rw [HSZ.out] at this; exact this, hb.2⟩)
   have hk3 : Kept (fun b => w.heap.size + 1 ≤ b ∧ b < w2.heap.size ∧ UnF w2 b) w2 W3 := by
    intro b hb
    rw [← hW3]
    exact Below.heap_setCell _ _ _ _ (fun e => by have e2 : b = w.heap.size := e; have := hb.1; omega)
   have hs3 : W3.heap.size = w2.heap.size := by rw [← hW3]; simp [World.setCell]
   have hst3 : Strs (New w W3) W3 (.slice (some ⟨w.heap.size + 1, 0, none⟩) l.length l.length) (l.map mkB) := (hst2.kept hk3).mono (fun b hb => ⟨by have := hb.1; omega, by rw [hs3]; exact hb.2.1, hb.2.2.same (hk3 b hb)⟩)
   have hst5 : Strs (fun b => w.heap.size + 1 ≤ b ∧ b < W3.heap.size ∧ UnF W3 b) W3 (.slice (some ⟨w.heap.size + 1, 0, none⟩) l.length l.length) (l.map mkB) := (hst2.kept hk3).mono (fun b hb => ⟨hb.1, by rw [hs3]; exact hb.2.1, hb.2.2.same (hk3 b hb)⟩)
   rw [hW3] at hn3 hb03
   have r1 : W3.cell? ⟨w.heap.size, 1, none⟩ = some (.slice (some ⟨w.heap.size + 1, 0, none⟩) l.length l.length) := by rw [cell_of_heap' hn3]; rfl
   have hl3 := lt_of_block hn3
   clear hb2 hn2 hst2 hk3 hb02
   go_wp2_with fail
   refine (NMD.out W3 _ hst3).mono ?_
   rintro e w4 ⟨rfl, hb4⟩
   have hn4 := (hb4.block w.heap.size hl3).trans hn3
   have d0 := cell_of_heap' hn4 0
   have d1 := cell_of_heap' hn4 1
   replace d0 : w4.cell? ⟨w.heap.size, 0, none⟩ = _ := d0
   replace d1 : w4.cell? ⟨w.heap.size, 1, none⟩ = some (.slice (some ⟨w.heap.size + 1, 0, none⟩) l.length l.length) := d1
   have dz := frozen_cells hn4
   have hb04 : Below w.heap.size w w4 := hb03.trans (hb4.mono hb03.size)
   have hst4 : Strs (fun b => w.heap.size + 1 ≤ b ∧ b < w4.heap.size ∧ UnF w4 b) w4 (.slice (some ⟨w.heap.size + 1, 0, none⟩) l.length l.length) (l.map mkB) := (hst5.kept (fun b hb => hb4.block b hb.2.1)).mono (fun b hb => ⟨hb.1, Nat.lt_of_lt_of_le hb.2.1 hb4.size, hb.2.2.same (hb4.block b hb.2.1)⟩)
   clear hW3 hn3 r1 hst3 hst5 hb4 hb03 q1 qz
   have HN4 := Lib.hid hn4
   have HB4 := Lib.hid hb04
   have HST4 := Lib.hid hst4
   clear hn4 hb04 hst4
   simp at d0
   go_wp2_with fail
   refine bodyPost_ret (results_way rfl rfl (two_cells HN4.out rfl _ _)) rfl ?_
   first
   | exact ⟨(HB4.out.setCell (p := ⟨w.heap.size, 0, none⟩) (Nat.le_refl _) _).setCell (p := ⟨w.heap.size, 1, none⟩) (Nat.le_refl _) _, rfl⟩
   | refine ⟨(HB4.out.setCell (p := ⟨w.heap.size, 0, none⟩) (Nat.le_refl _) _).setCell (p := ⟨w.heap.size, 1, none⟩) (Nat.le_refl _) _, _, rfl, ?_⟩
     exact strs_sets HST4.out _ _
theorem way_calls (s : ByteArray) (hs : s.size ≤ 16777216) (w : World) (hsh : Sh w) : Calls Tryz.prog 126 #[.string s] w (WayR w (wayB (bl s))) := by
 have ht : ∀ T : ByteArray, T.toList = T.data.toList := fun T => ByteArray.toList_eq T
 have hp := prefix1 36 s.data.toList
 have htr := trim1 36 s.data.toList
 have gen : ∀ (b : Bool) (T : By), s.data.toList.head? = some 36 ∧ b = true ∧ s.data.toList.drop 1 = T ∧ T ≠ [] ∨ s.data.toList.head? ≠ some 36 ∧ b = false ∧ s.data.toList = T ∧ T ≠ [46] →
  Calls Tryz.prog 126 #[.string s] w (WayR w (wayT b T)) := by
  intro b T hc
  have hsl : s.data.toList.length = s.size := by simp
  have hTl : T.length ≤ 16777216 := by
   rcases hc with ⟨-, -, h, -⟩ | ⟨-, -, h, -⟩
   · rw [← h]; simp; omega
   · rw [← h]; omega
  have hU : (⟨(Lib.trimPrefix s.data.toList [36]).toArray⟩ : ByteArray) = mkB T := by
   rw [htr]
   rcases hc with ⟨h1, -, h2, -⟩ | ⟨h1, -, h2, -⟩
   · rw [if_pos h1, h2]; rfl
   · rw [if_neg h1, h2]; rfl
  have hh : Lib.hasPrefix s.data.toList [36] = b := by
   rw [hp]
   rcases hc with ⟨h1, h3, h2, -⟩ | ⟨h1, h3, h2, -⟩
   · rw [h3]; simpa using h1
   · rw [h3]; simpa using h1
  have h1 : b = true → (mkB T).toList.isEmpty = false := by
   intro hb
   rcases hc with ⟨-, -, -, h⟩ | ⟨-, h, -, -⟩
   · rw [ht]; show T.isEmpty = false; cases T with | nil => exact absurd rfl h | cons a r => rfl
   · rw [h] at hb; cases hb
  have h2 : b = false → (s.toList == [46]) = false := by
   intro hb
   rcases hc with ⟨-, h, -, -⟩ | ⟨-, -, h, h4⟩
   · rw [h] at hb; cases hb
   · rw [ht, h]; simpa using h4
  have hq := prefix1 46 T
  have htq := trim1 46 T
  by_cases hd : T.head? = some 46
  · have hw : wayT b T = if namesOk (splitP (· == 46) (bl (mkB (T.drop 1)))) then some (b, splitP (· == 46) (bl (mkB (T.drop 1)))) else none := by
     cases T with
     | nil => simp at hd
     | cons a r =>
       simp at hd; subst hd
       rfl
    rw [hw]
    refine way_names s hs w hsh (mkB T) (mkB (T.drop 1)) b hU hh h1 h2 ?_ (by rw [mkB_size]; simp; omega) ?_
    · show (⟨(Lib.trimPrefix T [46]).toArray⟩ : ByteArray) = _
      rw [htq, if_pos hd]; rfl
    · show Lib.hasPrefix T [46] = true
      rw [hq]; simpa using hd
  · have hw : wayT b T = none := by
     unfold wayT
     split
     · simp at hd
     · rfl
    rw [hw]
    refine way_none s hs w (mkB T) (mkB T) b hU hh h1 h2 ?_ ?_
    · show (⟨(Lib.trimPrefix T [46]).toArray⟩ : ByteArray) = _
      rw [htq, if_neg hd]; rfl
    · show Lib.hasPrefix T [46] = false
      rw [hq]; simpa using hd
 show Calls Tryz.prog 126 #[.string s] w (WayR w (wayB s.data.toList))
 unfold wayB
 split
 · rename_i he
   refine way_dot s hs w s ?_ ?_ ?_
   · rw [htr, if_neg (by rw [he]; decide)]
   · rw [hp, he]; rfl
   · rw [ht, he]; rfl
 · rename_i he
   refine way_end s hs w (mkB []) ?_ ?_ ?_
   · rw [htr, he]; rfl
   · rw [hp, he]; rfl
   · rw [ht]; rfl
 · rename_i r hr he
   exact gen true r (.inl ⟨by rw [he]; rfl, rfl, by rw [he]; rfl, fun e => hr e⟩)
 · rename_i h1 h2 h3
   refine gen false _ (.inr ⟨?_, rfl, rfl, h1⟩)
   intro h4
   cases hl : s.data.toList with
   | nil => rw [hl] at h4; cases h4
   | cons a r =>
     rw [hl] at h4
     simp at h4; subst h4
     exact h3 r hl
def MustR (w : World) (at_ : Nat) (r : Option (Bool × List By)) (e : Ending) (w' : World) : Prop := Below w.heap.size w w' ∧ match r with
 | none => e = .panicked [{ v := .iface 84 (.agg #[.int .i64 190, .int .i64 (at_ : Nat)]), recovered := false }]
 | some p => ∃ v, e = .returned (.agg #[.bool p.1, v]) ∧ Strs (New w w') w' v (p.2.map mkB)
theorem must_calls (s : ByteArray) (hs : s.size ≤ 16777216) (at_ : Nat) (hat : at_ ≤ 16777216) (w : World) (hsh : Sh w) : Calls Tryz.prog 87 #[.string s, .int .i64 (at_ : Nat)] w (MustR w at_ (wayB (bl s))) := by
 have hb1 : Below w.heap.size w (w.alloc (.cells #[.bool false, .slice none 0 0] 54)) := (Below.refl w.heap.size w).alloc (Nat.le_refl _) _
 have WY := Lib.hid (way_calls s hs (w.alloc (.cells #[.bool false, .slice none 0 0] 54)) (hsh.below hb1))
 have HB := Lib.hid hb1
 have hn1 := Lib.hid (heap_alloc_new w (.cells #[.bool false, .slice none 0 0] 54))
 have HSZ : Hid ((w.alloc (.cells #[.bool false, .slice none 0 0] 54)).heap.size = w.heap.size + 1) := by unfold Hid; simp
 clear hb1
 cases hw : wayB (bl s) with
 | none =>
   rw [hw] at WY
   clear hw hsh
   go_enter Tryz.func87, Tryz.ntmps87
   go_wp2_with fail
   refine WY.out.mono ?_
   rintro e w2 ⟨hb2, rfl⟩
   rw [HSZ.out] at hb2
   have hb02 := Lib.hid ((HB.out.trans (hb2.mono (by omega))).alloc (by have := hb2.size; rw [HSZ.out] at this; omega) (.cells #[.bool false, .slice none 0 0] 54))
   clear hb2
   go_wp2_with fail
   exact ⟨rfl, hb02.out, rfl⟩
 | some p =>
   rw [hw] at WY
   clear hw hsh
   go_enter Tryz.func87, Tryz.ntmps87
   go_wp2_with fail
   refine WY.out.mono ?_
   rintro e w2 ⟨hb2, v, rfl, hst⟩
   obtain ⟨L, hL⟩ : ∃ L, p.2.map mkB = L := ⟨_, rfl⟩
   rw [hL] at hst
   have HL := Lib.hid hL
   clear hL
   have ⟨va, vc, hv, _⟩ := hst
   subst hv
   rw [HSZ.out] at hb2
   have hlt := hb2.size
   rw [HSZ.out] at hlt
   have hb02 : Below w.heap.size w (w2.alloc (.cells #[.bool p.1, .slice va L.length vc] 54)) := (HB.out.trans (hb2.mono (by omega))).alloc (by omega) _
   have hn2 : (w2.alloc (.cells #[.bool p.1, .slice va L.length vc] 54)).heap[w.heap.size]? = some (.cells #[.bool false, .slice none 0 0] 54 (0, 0)) :=
    (Below.heap_alloc _ _ _ (by omega)).trans ((hb2.block w.heap.size (by omega)).trans hn1.out)
   have hst2 : Strs (fun b => w.heap.size + 1 ≤ b ∧ b < (w2.alloc (.cells #[.bool p.1, .slice va L.length vc] 54)).heap.size ∧ UnF (w2.alloc (.cells #[.bool p.1, .slice va L.length vc] 54)) b) (w2.alloc (.cells #[.bool p.1, .slice va L.length vc] 54)) (.slice va L.length vc) L :=
    (hst.kept (fun b hb => Below.heap_alloc _ _ _ hb.2.1)).mono (fun b hb => ⟨by have := hb.1; rw [HSZ.out] at this; omega, by have := hb.2.1; simp; omega, hb.2.2.same (Below.heap_alloc _ _ _ hb.2.1)⟩)
   have q0 : (w2.alloc (.cells #[.bool p.1, .slice va L.length vc] 54)).cell? ⟨w.heap.size, 0, none⟩ = some (.bool false) := by rw [cell_of_heap' hn2]; rfl
   have q1 : (w2.alloc (.cells #[.bool p.1, .slice va L.length vc] 54)).cell? ⟨w.heap.size, 1, none⟩ = some (.slice none 0 0) := by rw [cell_of_heap' hn2]; rfl
   have qz := frozen_cells hn2
   have HB2 := Lib.hid hb02
   have HN2 := Lib.hid hn2
   have HS2 := Lib.hid hst2
   clear hb02 hn2 hst2 hst hb2
   go_wp2_with fail
   refine bodyPost_ret (results_path rfl rfl (two_cells HN2.out rfl _ _)) rfl ?_
   exact ⟨(HB2.out.setCell (p := ⟨w.heap.size, 0, none⟩) (Nat.le_refl _) _).setCell (p := ⟨w.heap.size, 1, none⟩) (Nat.le_refl _) _, _, rfl, by rw [HL.out]; exact strs_sets HS2.out _ _⟩
theorem run_eql_iface_nil {P : Program} (w : World) {t tx : TypeId} {ms : Array (String × TypeId)} (v : Value) (ht : P.underlying t = some (.interface ms)) :
 (binOp .eql t (.iface tx v) .nilIface).run P w = .ok (.bool false) w := by
 have h : ∀ d : Nat, (Op.equalIn (d + 1) t (.iface tx v) .nilIface).run P w = .ok false w := fun d => by
  simp [Op.equalIn, run_underlying ht]
 simp only [binOp]
 simp [Op.equal, Op.maxDepth, h 9999]
set_option maxRecDepth 100000 in
theorem assert_wrong (v : Value) (w : World) : (Instr.typeAssert (.iface 84 v) 20 84 true).run Tryz.prog w = .ok (.tuple #[v, .bool true]) w := by
 simp [Instr.typeAssert, run_underlying Tryz.underlying84, Result.andThen, go_sem]
theorem parseF_idle (pt pe : Addr) (w : World) :
 CallsD Tryz.prog 43 #[.pointer (some pt), .pointer (some pe)] .returning w fun e u' w' => e = .returned (.tuple #[]) ∧ u' = .returning ∧ w' = w := by
 refine callsD_of_wpS Tryz.func43 rfl fun c₀ cs hu => ?_
 simp only [Tryz.ntmps43, List.size_toArray, List.length_cons, List.length_nil, Nat.reduceAdd, Nat.reduceSub, Array.replicate_succ, Array.replicate_zero, List.push_toArray, List.append_toArray, List.nil_append, List.cons_append]
 apply wpS_seq
 apply wpS_region
 simp [wpOpsS, go_sem, recoverD, hu, Exit.thenS]
 refine wpS_of_wp ?_
 generalize hQ : (fun e a' w' => bodyPostS _ _ _ _ _ e a' _ w') = Q
 have HQ := Lib.hid hQ
 clear hQ
 go_wp2_with fail
 rw [← HQ.out]
 refine ⟨rfl, .returning, ?_, .tuple #[], ?_, rfl, rfl, rfl⟩
 · cases c₀; simp_all
 · simp [results, Tryz.results43]
def Caught (bt be : Nat) (n p : Int) (w w' : World) : Prop :=
 w'.heap[bt]? = some (.cells #[.slice none 0 0, .slice none 0 0] 25 (0, 0)) ∧
 (∃ bf, w.heap.size ≤ bf ∧ w'.heap[be]? = some (.cells #[.iface 93 (.pointer (some ⟨bf, 0, none⟩))] 64 (0, 0)) ∧ w'.heap[bf]? = some (.cells #[.string ⟨#[80, 97, 114, 115, 101]⟩, .int .i64 p, .iface 37 (.int .i64 n)] 95 (0, 0))) ∧
 w'.os = w.os ∧ w'.tape = w.tape ∧ w'.output = w.output ∧ w.heap.size ≤ w'.heap.size ∧ ∀ b, b < w.heap.size → b ≠ bt → b ≠ be → w'.heap[b]? = w.heap[b]?
set_option maxRecDepth 100000 in
theorem parseF_catch (bt be : Nat) (hne : bt ≠ be) (vm vd ve : Value) (n p : Int) (w : World) (ht : w.heap[bt]? = some (.cells #[vm, vd] 25 (0, 0))) (he : w.heap[be]? = some (.cells #[ve] 64 (0, 0))) :
 CallsD Tryz.prog 43 #[.pointer (some ⟨bt, 0, none⟩), .pointer (some ⟨be, 0, none⟩)] (.panicking [{ v := .iface 84 (.agg #[.int .i64 n, .int .i64 p]), recovered := false }]) w fun e u' w' =>
  e = .returned (.tuple #[]) ∧ u' = .panicking [{ v := .iface 84 (.agg #[.int .i64 n, .int .i64 p]), recovered := true }] ∧ Caught bt be n p w w' := by
 have hnil := fun w => run_eql_iface_nil (P := Tryz.prog) w (tx := 84) (.agg #[.int .i64 n, .int .i64 p]) Tryz.underlying20
 have hass := assert_wrong (.agg #[.int .i64 n, .int .i64 p])
 have c0 : w.cell? ⟨bt, 0, none⟩ = some vm := by rw [cell_of_heap' ht]; rfl
 have c1 : w.cell? ⟨bt, 1, none⟩ = some vd := by rw [cell_of_heap' ht]; rfl
 have d0 : w.cell? ⟨be, 0, none⟩ = some ve := by rw [cell_of_heap' he]; rfl
 have fz := frozen_cells ht
 have fe := frozen_cells he
 have hbt := lt_of_block ht
 have hbe := lt_of_block he
 have HT := Lib.hid ht
 have HE := Lib.hid he
 clear ht he
 refine callsD_of_wpS Tryz.func43 rfl fun c₀ cs hu => ?_
 simp only [Tryz.ntmps43, List.size_toArray, List.length_cons, List.length_nil, Nat.reduceAdd, Nat.reduceSub, Array.replicate_succ, Array.replicate_zero, List.push_toArray, List.append_toArray, List.nil_append, List.cons_append]
 apply wpS_seq
 apply wpS_region
 simp [wpOpsS, go_sem, recoverD, hu, Exit.thenS]
 refine wpS_of_wp ?_
 generalize hQ : (fun e a' w' => bodyPostS _ _ _ _ _ e a' _ w') = Q
 have HQ := Lib.hid hQ
 have HU := Lib.hid hu
 clear hQ hu
 go_wp2_with fail
 have n1 : ¬ bt = w.heap.size := by omega
 have n2 : ¬ bt = w.heap.size + 1 := by omega
 have n3 : ¬ be = w.heap.size := by omega
 have n4 : ¬ be = w.heap.size + 1 := by omega
 have n5 : ¬ be = bt := fun e => hne e.symm
 go_region
 all_goals
  show Q Exit.normal _ _
  rw [← HQ.out]
  refine ⟨rfl, _, rfl, .tuple #[], by simp [results, Tryz.results43], rfl, rfl, ?_, ⟨w.heap.size + 1, by omega, ?_, ?_⟩, rfl, rfl, rfl, ?_, fun b hb h1 h2 => ?_⟩
  · show (World.alloc (World.alloc _ _) _).heap[bt]? = _
    rw [Below.heap_alloc _ _ _ (by simp [World.setCell]; omega), Below.heap_alloc _ _ _ (by simp [World.setCell]; omega), Below.heap_setCell _ _ _ _ hne]
    exact two_cells HT.out rfl _ _
  · show (World.alloc (World.alloc _ _) _).heap[be]? = _
    rw [Below.heap_alloc _ _ _ (by simp [World.setCell]; omega), Below.heap_alloc _ _ _ (by simp [World.setCell]; omega)]
    exact set_cells (j := 0) ((Below.heap_setCell _ _ _ _ n5).trans ((Below.heap_setCell _ _ _ _ n5).trans HE.out)) _
  · show (World.alloc (World.alloc _ _) _).heap[_]? = _
    have := heap_alloc_new (World.alloc (((w.setCell ⟨bt, 0, none⟩ (.slice none 0 0)).setCell ⟨bt, 1, none⟩ (.slice none 0 0)).setCell ⟨be, 0, none⟩ (.iface 93 (.pointer (some ⟨w.heap.size + 1, 0, none⟩)))) (.cells #[.int .i64 n, .int .i64 p] 84)) (.cells #[.string ⟨#[80, 97, 114, 115, 101]⟩, .int .i64 p, .iface 37 (.int .i64 n)] 95)
    have hs : (World.alloc (((w.setCell ⟨bt, 0, none⟩ (.slice none 0 0)).setCell ⟨bt, 1, none⟩ (.slice none 0 0)).setCell ⟨be, 0, none⟩ (.iface 93 (.pointer (some ⟨w.heap.size + 1, 0, none⟩)))) (.cells #[.int .i64 n, .int .i64 p] 84)).heap.size = w.heap.size + 1 := by simp [World.setCell]
    rw [hs] at this
    exact this
  · show w.heap.size ≤ (World.alloc (World.alloc _ _) _).heap.size
    simp [World.setCell]; omega
  · show (World.alloc (World.alloc _ _) _).heap[b]? = _
    rw [Below.heap_alloc _ _ _ (by simp [World.setCell]; omega), Below.heap_alloc _ _ _ (by simp [World.setCell]; omega), Below.heap_setCell _ _ _ _ h2, Below.heap_setCell _ _ _ _ h1, Below.heap_setCell _ _ _ _ h1]
end Go.Proofs.YtepcpgdfbaklfaaGreatDoor
