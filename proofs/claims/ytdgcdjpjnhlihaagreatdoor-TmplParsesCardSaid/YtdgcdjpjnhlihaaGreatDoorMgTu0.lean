/-
  How the reader of lacunaref19 lies in memory: what has been read, what is being read, the first error. No condition.
-/
/-
  The contract of lacunaref19's add. The condition: no list is longer than 2 to the 24th.
-/
/-
  The contract of lacunaref19's begin. The condition: no list is longer than 2 to the 24th.
-/
import Derived.Test.YtdgcdjpjnhlihaaGreatDoorMgTrd
import Derived.Test.YtdgcdjpjnhlihaaGreatDoorMgTen
import Derived.Deep.RegionLaw
import Derived.Deep.RegionHeldLaw
set_option linter.unusedVariables false
namespace Go.Proofs.YtdgcdjpjnhlihaaGreatDoor
open Go.RowKit Go.Shelf

/-- The first error stays. -/
def lat (E : Nat × Nat) (n i : Nat) : Nat × Nat := if E.1 = 0 then (n, i) else E
theorem lat_ne {E : Nat × Nat} (h : E.1 ≠ 0) (n i : Nat) : lat E n i = E := if_neg h
/-- What the reader's state says of a reading that ends at the first error. -/
def Lt (r : Rs St) (s : St) (E : Nat × Nat) : Prop := match r with
  | .ok t => s = t ∧ E = (0, 0)
  | .err n p => n ≠ 0 ∧ E = (n, p)
/-- The cells of a frame. -/
def frRow (f : Fr) (vn vk kv : Value) : List Value := [.int .i64 (f.kind : Nat), .int .u8 ((if f.kind = 6 then 0 else f.kind : Nat) : Nat), .int .i64 ((if f.kind = 6 then 0 else f.pos : Nat) : Nat), .string ⟨#[]⟩, .bool f.root, vn, .string ⟨#[]⟩, vk, .slice none 0 0, .bool f.els, kv,
  .string (mkB f.name), .int .i64 ((if f.kind = 6 then f.pos else 0 : Nat) : Nat), .slice none 0 0]
/-- A frame's cells, at a level. -/
def FrR (B : Nat) (col : Nat → Nat) (w : World) (q i : Nat) (f : Fr) (fc : List Value) : Prop :=
  f.kids.len ≤ q ∧ ∃ vn vk kv, fc = frRow f vn vk kv ∧ Strs (Ok col w) w vn (f.names.map mkB) ∧ Parts (Ok col w) w vk f.fst ∧ Kids B col w (6 + 2 * i) kv f.kids
theorem FrR.same {C : Nat → Prop} {B : Nat} {col col' : Nat → Nat} {w w' : World} {q q' i : Nat} {f : Fr} {fc : List Value} (hs : Same C col col' w w') (h0 : C 0) (h2 : C (6 + 2 * i)) (hq : q ≤ q') (h : FrR B col w q i f fc) : FrR B col' w' q' i f fc := by
  obtain ⟨c, vn, vk, kv, d, e, g, k⟩ := h
  exact ⟨Nat.le_trans c hq, vn, vk, kv, d, hs.strs h0 e, hs.parts h0 g, k.same hs h0 h2⟩
theorem FrR.len {B : Nat} {col : Nat → Nat} {w : World} {q i : Nat} {f : Fr} {fc : List Value} (h : FrR B col w q i f fc) : fc.length = 14 := by
  obtain ⟨-, vn, vk, kv, rfl, -⟩ := h
  rfl
/-- The frames' cells: the list has the top one first, the cells the main one. -/
def StkC (B : Nat) (col : Nat → Nat) (w : World) (q : Nat) : List Fr → List Value → Prop
  | [], cs => cs = []
  | f :: r, cs => ∃ cs' fc, cs = cs' ++ fc ∧ FrR B col w q r.length f fc ∧ StkC B col w q r cs'
theorem StkC.same {C : Nat → Prop} {B : Nat} {col col' : Nat → Nat} {w w' : World} {q q' : Nat} (hs : Same C col col' w w') (h0 : C 0) (hq : q ≤ q') : ∀ (l : List Fr) (cs : List Value), (∀ i, i < l.length → C (6 + 2 * i)) → StkC B col w q l cs → StkC B col' w' q' l cs := by
  intro l
  induction l with
  | nil => intro cs _ h; exact h
  | cons f r ih =>
    rintro cs hc ⟨cs', fc, rfl, h1, h2⟩
    exact ⟨cs', fc, rfl, h1.same hs h0 (hc r.length (by simp)) hq, ih cs' (fun i hi => hc i (by simp; omega)) h2⟩
theorem StkC.len {B : Nat} {col : Nat → Nat} {w : World} {q : Nat} : ∀ (l : List Fr) (cs : List Value), StkC B col w q l cs → cs.length = l.length * 14 := by
  intro l
  induction l with
  | nil => intro cs h; obtain rfl : cs = [] := h; rfl
  | cons f r ih =>
    rintro cs ⟨cs', fc, rfl, h1, h2⟩
    have := ih _ h2
    have := h1.len
    simp only [List.length_append, List.length_cons]; omega
def rrCells (src : ByteArray) (sv dv : Value) (many : Nat) (cv : Value) (E : Nat × Nat) : Array Value := #[.string src, sv, .slice none 0 0, dv, .int .i64 (many : Nat), cv, .int .i64 (E.1 : Nat), .int .i64 (E.2 : Nat)]
/-- A reader in memory: everything that is its own lies from block B on; no list is longer than q. -/
structure RdR (B q bx : Nat) (src : ByteArray) (s : St) (E : Nat × Nat) (col : Nat → Nat) (sv dv cv : Value) (w : World) : Prop where
  bb : B ≤ bx
  cx : col bx = 1
  hx : w.heap[bx]? = some (.cells (rrCells src sv dv s.many cv E) 96 (0, 0))
  st : ∃ cs, OwnC B col w 2 93 14 sv (s.rest.length + 1) cs ∧ StkC B col w q (s.top :: s.rest) cs
  df : DefsM B col w dv s.defs
  cl : CallsM B col w cv s.calls
  l1 : s.many ≤ q
  l2 : s.rest.length ≤ q
  l3 : s.defs.length ≤ q
  l4 : s.calls.length ≤ q
  hB : B ≤ w.heap.size
  ol : ∀ b, b < B → col b = 1
def RdN (B q bx : Nat) (src : ByteArray) (s : St) (E : Nat × Nat) (w : World) : Prop := ∃ col sv dv cv, RdR B q bx src s E col sv dv cv w
theorem RdR.cells {B q bx : Nat} {src : ByteArray} {s : St} {E : Nat × Nat} {col : Nat → Nat} {sv dv cv : Value} {w : World} (h : RdR B q bx src s E col sv dv cv w) :
    w.cell? ⟨bx, 0, none⟩ = some (.string src) ∧ w.cell? ⟨bx, 1, none⟩ = some sv ∧ w.cell? ⟨bx, 2, none⟩ = some (.slice none 0 0) ∧ w.cell? ⟨bx, 3, none⟩ = some dv ∧ w.cell? ⟨bx, 4, none⟩ = some (.int .i64 (s.many : Nat)) ∧ w.cell? ⟨bx, 5, none⟩ = some cv ∧
    w.cell? ⟨bx, 6, none⟩ = some (.int .i64 (E.1 : Nat)) ∧ w.cell? ⟨bx, 7, none⟩ = some (.int .i64 (E.2 : Nat)) ∧ (∀ j, w.frozen? ⟨bx, j, none⟩ = false) :=
  ⟨by rw [cell_of_heap' h.hx]; rfl, by rw [cell_of_heap' h.hx]; rfl, by rw [cell_of_heap' h.hx]; rfl, by rw [cell_of_heap' h.hx]; rfl, by rw [cell_of_heap' h.hx]; rfl, by rw [cell_of_heap' h.hx]; rfl, by rw [cell_of_heap' h.hx]; rfl, by rw [cell_of_heap' h.hx]; rfl, frozen_cells h.hx⟩
/-- The blocks of all colours up to the top's stay; colour 5 is what nobody looks at. -/
theorem RdR.same {C : Nat → Prop} {B q q' bx : Nat} {src : ByteArray} {s : St} {E : Nat × Nat} {col col' : Nat → Nat} {sv dv cv : Value} {w w' : World} (hs : Same C col col' w w') (hC : ∀ c, c ≤ 6 + 2 * s.rest.length → c ≠ 5 → C c) (hq : q ≤ q') (h : RdR B q bx src s E col sv dv cv w) : RdR B q' bx src s E col' sv dv cv w' := by
  obtain ⟨cs, h1, h2⟩ := h.st
  exact ⟨h.bb, (hs.2 bx (lt_of_block h.hx) (by rw [h.cx]; exact hC _ (by omega) (by omega))).1.trans h.cx, (hs.2 bx (lt_of_block h.hx) (by rw [h.cx]; exact hC _ (by omega) (by omega))).2.trans h.hx,
    ⟨cs, h1.same hs (hC _ (by omega) (by omega)), h2.same hs (hC _ (by omega) (by omega)) hq _ _ (fun i hi => by simp only [List.length_cons] at hi; exact hC _ (by omega) (by omega))⟩, h.df.same hs (hC _ (by omega) (by omega)) (hC _ (by omega) (by omega)), h.cl.same hs (hC _ (by omega) (by omega)),
    Nat.le_trans h.l1 hq, Nat.le_trans h.l2 hq, Nat.le_trans h.l3 hq, Nat.le_trans h.l4 hq, Nat.le_trans h.hB hs.1, fun b hb => (hs.2 b (Nat.lt_of_lt_of_le hb h.hB) (by rw [h.ol b hb]; exact hC _ (by omega) (by omega))).1.trans (h.ol b hb)⟩
theorem same_rfl (C : Nat → Prop) (col : Nat → Nat) (w : World) : Same C col col w w := ⟨Nat.le_refl _, fun _ _ _ => ⟨rfl, rfl⟩⟩
theorem RdR.more {B q q' bx : Nat} {src : ByteArray} {s : St} {E : Nat × Nat} {col : Nat → Nat} {sv dv cv : Value} {w : World} (hq : q ≤ q') (h : RdR B q bx src s E col sv dv cv w) : RdR B q' bx src s E col sv dv cv w := h.same (same_rfl (fun _ => True) col w) (fun _ _ _ => trivial) hq
theorem RdN.more {B q q' bx : Nat} {src : ByteArray} {s : St} {E : Nat × Nat} {w : World} (hq : q ≤ q') (h : RdN B q bx src s E w) : RdN B q' bx src s E w := by
  obtain ⟨col, sv, dv, cv, h⟩ := h
  exact ⟨col, sv, dv, cv, h.more hq⟩
/-- The reader's own block is written, nothing else. -/
theorem RdR.turn {B q q' bx : Nat} {src : ByteArray} {s s' : St} {E E' : Nat × Nat} {col : Nat → Nat} {sv dv cv : Value} {w w' : World} (h : RdR B q bx src s E col sv dv cv w) (hs : Same (fun c => c ≠ 1) col col w w') (hq : q ≤ q')
    (hx : w'.heap[bx]? = some (.cells (rrCells src sv dv s'.many cv E') 96 (0, 0))) (ht : s'.top = s.top) (hr : s'.rest = s.rest) (hd : s'.defs = s.defs) (hcl : s'.calls = s.calls) (hm : s'.many ≤ q') : RdR B q' bx src s' E' col sv dv cv w' := by
  obtain ⟨cs, h1, h2⟩ := h.st
  refine ⟨h.bb, h.cx, hx, ⟨cs, ?_, ?_⟩, ?_, ?_, hm, ?_, ?_, ?_, Nat.le_trans h.hB hs.1, h.ol⟩
  · rw [hr]; exact h1.same hs (by decide)
  · rw [ht, hr]; exact h2.same hs (by decide) hq _ _ (fun i _ => by omega)
  · rw [hd]; exact h.df.same hs (by decide) (by decide)
  · rw [hcl]; exact h.cl.same hs (by decide)
  · rw [hr]; exact Nat.le_trans h.l2 hq
  · rw [hd]; exact Nat.le_trans h.l3 hq
  · rw [hcl]; exact Nat.le_trans h.l4 hq
theorem set_set (w : World) (b i j : Nat) (x y : Value) (B : Nat) (hB : B ≤ b) : Below B w ((w.setCell ⟨b, i, none⟩ x).setCell ⟨b, j, none⟩ y) := ((Below.refl B w).setCell hB _).setCell hB _
/-- An error has been set. -/
theorem RdR.failed {B q bx : Nat} {src : ByteArray} {s : St} {E : Nat × Nat} {col : Nat → Nat} {sv dv cv : Value} {w : World} (h : RdR B q bx src s E col sv dv cv w) (n i : Nat) :
    RdR B q bx src s (n, i) col sv dv cv ((w.setCell ⟨bx, 6, none⟩ (.int .i64 (n : Nat))).setCell ⟨bx, 7, none⟩ (.int .i64 (i : Nat))) ∧ Same (fun c => c ≠ 1) col col w ((w.setCell ⟨bx, 6, none⟩ (.int .i64 (n : Nat))).setCell ⟨bx, 7, none⟩ (.int .i64 (i : Nat))) := by
  have h1 := same_set col w bx 6 1 (.int .i64 (n : Nat)) h.cx
  have h2 := same_set col (w.setCell ⟨bx, 6, none⟩ (.int .i64 (n : Nat))) bx 7 1 (.int .i64 (i : Nat)) h.cx
  have hS : Same (fun c => c ≠ 1) col col w ((w.setCell ⟨bx, 6, none⟩ (.int .i64 (n : Nat))).setCell ⟨bx, 7, none⟩ (.int .i64 (i : Nat))) :=
    ⟨Nat.le_trans h1.1 h2.1, fun b hb hc => ⟨rfl, (h2.2 b (Nat.lt_of_lt_of_le hb h1.1) hc).2.trans (h1.2 b hb hc).2⟩⟩
  exact ⟨h.turn hS (Nat.le_refl q) (set_cells (j := 7) (set_cells (j := 6) h.hx _) _) rfl rfl rfl rfl h.l1, hS⟩
/-- One part more has been counted. -/
theorem RdR.counted {B q bx : Nat} {src : ByteArray} {s : St} {E : Nat × Nat} {col : Nat → Nat} {sv dv cv : Value} {w : World} (h : RdR B q bx src s E col sv dv cv w) :
    RdR B (q + 1) bx src { s with many := s.many + 1 } E col sv dv cv (w.setCell ⟨bx, 4, none⟩ (.int .i64 ((s.many + 1 : Nat) : Int))) ∧ Same (fun c => c ≠ 1) col col w (w.setCell ⟨bx, 4, none⟩ (.int .i64 ((s.many + 1 : Nat) : Int))) := by
  have hS := same_set col w bx 4 1 (.int .i64 ((s.many + 1 : Nat) : Int)) h.cx
  exact ⟨h.turn hS (Nat.le_succ q) (set_cells (j := 4) h.hx _) rfl rfl rfl rfl (Nat.succ_le_succ h.l1), hS⟩
/-- What a call on a reader that keeps its lists comes to. -/
def KpP (B q bx : Nat) (src : ByteArray) (s : St) (E : Nat × Nat) (col : Nat → Nat) (sv dv cv : Value) (w : World) (e : Ending) (w' : World) : Prop :=
  e = .returned (.tuple #[]) ∧ Below B w w' ∧ Same (fun c => c ≠ 1) col col w w' ∧ RdR B q bx src s E col sv dv cv w'
/-- What a call on a reader comes to. -/
def RnP (B q bx : Nat) (src : ByteArray) (s : St) (E : Nat × Nat) (w : World) (e : Ending) (w' : World) : Prop :=
  e = .returned (.tuple #[]) ∧ Below B w w' ∧ RdN B q bx src s E w'
set_option maxRecDepth 100000 in
theorem failR_calls (B q bx n at_ : Nat) (src : ByteArray) (s : St) (E : Nat × Nat) (col : Nat → Nat) (sv dv cv : Value) (w : World) (h : RdR B q bx src s E col sv dv cv w) :
    Calls Tryz.prog 45 #[.pointer (some ⟨bx, 0, none⟩), .int .i64 (n : Nat), .int .i64 (at_ : Nat)] w (KpP B q bx src s (lat E n at_) col sv dv cv w) := by
  obtain ⟨c0, c1, c2, c3, c4, c5, c6, c7, fz⟩ := h.cells
  have HF := Lib.hid (h.failed n at_)
  have HB : Hid (Below B w ((w.setCell ⟨bx, 6, none⟩ (.int .i64 (n : Nat))).setCell ⟨bx, 7, none⟩ (.int .i64 (at_ : Nat)))) := set_set w bx 6 7 _ _ B h.bb
  have H := Lib.hid h
  clear h c0 c1 c2 c3 c4 c5
  by_cases h0 : E.1 = 0
  · rw [h0] at c6
    have hl : lat E n at_ = (n, at_) := if_pos h0
    rw [hl]
    clear h0 hl
    go_enter Tryz.func45, Tryz.ntmps45
    go_wp2_with fail
    go_end0
    exact ⟨rfl, HB.out, HF.out.2, HF.out.1⟩
  · have hl : lat E n at_ = E := if_neg h0
    have hne : ((E.1 : Int) == 0) = false := beq_eq_false_iff_ne.2 (by omega)
    rw [hl]
    clear hl
    go_enter Tryz.func45, Tryz.ntmps45
    go_wp2_with fail
    go_end0
    exact ⟨rfl, Below.refl _ _, same_rfl _ _ _, H.out⟩
def cntE (m : Nat) (E : Nat × Nat) (at_ : Nat) : Nat × Nat := if 1024 < m + 1 then lat E 196 at_ else E
set_option maxRecDepth 100000 in
theorem countM_calls (B q bx at_ : Nat) (hq : q ≤ 16777216) (src : ByteArray) (s : St) (E : Nat × Nat) (col : Nat → Nat) (sv dv cv : Value) (w : World) (h : RdR B q bx src s E col sv dv cv w) :
    Calls Tryz.prog 43 #[.pointer (some ⟨bx, 0, none⟩), .int .i64 (at_ : Nat)] w (KpP B (q + 1) bx src { s with many := s.many + 1 } (cntE s.many E at_) col sv dv cv w) := by
  obtain ⟨c0, c1, c2, c3, c4, c5, c6, c7, fz⟩ := h.cells
  have hm := h.l1
  obtain ⟨hc1, hc2⟩ := h.counted
  have HB : Hid (Below B w (w.setCell ⟨bx, 4, none⟩ (.int .i64 ((s.many + 1 : Nat) : Int)))) := (Below.refl B w).setCell h.bb _
  have FC := Lib.hid (failR_calls B (q + 1) bx 196 at_ src _ E col sv dv cv _ hc1)
  have HC := Lib.hid hc1
  have HS := Lib.hid hc2
  have wv : IntKind.i64.wrap ((s.many : Int) + 1) = (s.many : Int) + 1 := IntWalk.i64_in _ (by omega)
  have we : ((s.many + 1 : Nat) : Int) = (s.many : Int) + 1 := by omega
  rw [we] at FC HC HS HB
  clear h hc1 hc2 c0 c1 c2 c3 c5 c6 c7
  unfold cntE
  by_cases hgt : 1024 < s.many + 1
  · have hgt' : (1024 : Int) < (s.many : Int) + 1 := by omega
    rw [if_pos hgt]
    clear hgt
    go_enter Tryz.func43, Tryz.ntmps43
    go_wp2_with fail
    refine FC.out.mono ?_
    rintro e w2 ⟨rfl, hb2, hs2, hr2⟩
    have HB2 := Lib.hid (HB.out.trans hb2)
    have HS2 : Hid (Same (fun c => c ≠ 1) col col w w2) := ⟨Nat.le_trans HS.out.1 hs2.1, fun b hb hc => ⟨rfl, (hs2.2 b (Nat.lt_of_lt_of_le hb HS.out.1) hc).2.trans (HS.out.2 b hb hc).2⟩⟩
    have HR2 := Lib.hid hr2
    clear hb2 hs2 hr2
    go_wp2_with fail
    go_end0
    exact ⟨rfl, HB2.out, HS2.out, HR2.out⟩
  · have hgt' : ¬ (1024 : Int) < (s.many : Int) + 1 := by omega
    rw [if_neg hgt]
    go_enter Tryz.func43, Tryz.ntmps43
    go_wp2_with fail
    go_end0
    exact ⟨rfl, HB.out, HS.out, HC.out⟩
end Go.Proofs.YtdgcdjpjnhlihaaGreatDoor
set_option linter.unusedVariables false
set_option linter.unusedSimpArgs false
namespace Go.Proofs.YtdgcdjpjnhlihaaGreatDoor
open Go.RowKit Go.Shelf

/-- The top frame in memory. -/
theorem RdR.top {B q bx : Nat} {src : ByteArray} {s : St} {E : Nat × Nat} {col : Nat → Nat} {sv dv cv : Value} {w : World} (h : RdR B q bx src s E col sv dv cv w) :
    ∃ g c cs vn vk kv, sv = .slice (some ⟨g, 0, none⟩) (s.rest.length + 1) c ∧ s.rest.length + 1 ≤ c ∧ c ≤ maxLen ∧ col g = 2 ∧ B ≤ g ∧ g < w.heap.size ∧
      w.ownsRow B 93 14 (.slice (some ⟨g, 0, none⟩) (s.rest.length + 1) c) (s.rest.length + 1) (cs ++ frRow s.top vn vk kv) ∧ cs.length = s.rest.length * 14 ∧ s.top.kids.len ≤ q ∧
      Strs (Ok col w) w vn (s.top.names.map mkB) ∧ Parts (Ok col w) w vk s.top.fst ∧ Kids B col w (6 + 2 * s.rest.length) kv s.top.kids ∧ StkC B col w q s.rest cs ∧
      (∀ j u, (frRow s.top vn vk kv)[j]? = some u → w.cell? ⟨g, s.rest.length * 14 + j, none⟩ = some u) ∧ ∀ j, w.frozen? ⟨g, j, none⟩ = false := by
  obtain ⟨cs0, ⟨h1, h2⟩, cs, fc, rfl, ⟨hk, vn, vk, kv, rfl, hn, hp, hK⟩, hS⟩ := h.st
  obtain ⟨g, c, rfl, hB, hlt, h3, h4, h5⟩ := ownsRow.elems h1 (Nat.succ_pos _)
  have hl := StkC.len _ _ hS
  refine ⟨g, c, cs, vn, vk, kv, rfl, h3, h4, h2 g rfl, hB, hlt, h1, hl, hk, hn, hp, hK, hS, fun j u hj => h5 _ _ ?_, (own_cells h1).2⟩
  rw [List.getElem?_append_right (by omega), ← hl]
  rwa [Nat.add_sub_cancel_left]
/-- The top frame is another one, in the same place. -/
theorem RdR.retop {B q q' bx g n c : Nat} {src : ByteArray} {s : St} {E : Nat × Nat} {col col' : Nat → Nat} {dv cv : Value} {w w2 : World} (hg : RdR B q bx src s E col (.slice (some ⟨g, 0, none⟩) n c) dv cv w) {cs fc : List Value} {f' : Fr}
    (hS : Same (fun c => c ≠ 2 ∧ c ≠ 6 + 2 * s.rest.length) col col' w w2) (hq : q ≤ q') (hn : n = s.rest.length + 1)
    (hown : w2.ownsRow B 93 14 (.slice (some ⟨g, 0, none⟩) n c) n (cs ++ fc)) (hcg : col' g = 2) (hcs : StkC B col w q s.rest cs) (hF : FrR B col' w2 q' s.rest.length f' fc) : RdR B q' bx src { s with top := f' } E col' (.slice (some ⟨g, 0, none⟩) n c) dv cv w2 := by
  subst hn
  have c0 : (fun c => c ≠ 2 ∧ c ≠ 6 + 2 * s.rest.length) 0 := ⟨by omega, by omega⟩
  exact {
    bb := hg.bb
    cx := (hS.2 bx (lt_of_block hg.hx) (by rw [hg.cx]; omega)).1.trans hg.cx
    hx := (hS.2 bx (lt_of_block hg.hx) (by rw [hg.cx]; omega)).2.trans hg.hx
    st := ⟨cs ++ fc, ⟨hown, fun g' hg' => by
      have : g = g' := by simpa [Value.ownBlock] using hg'
      rw [← this]; exact hcg⟩, cs, fc, rfl, hF, hcs.same hS c0 hq _ _ (fun i hi => by have hi2 : i < s.rest.length := hi; exact ⟨by omega, by omega⟩)⟩
    df := hg.df.same hS c0 ⟨by omega, by omega⟩
    cl := hg.cl.same hS ⟨by omega, by omega⟩
    l1 := Nat.le_trans hg.l1 hq
    l2 := Nat.le_trans hg.l2 hq
    l3 := Nat.le_trans hg.l3 hq
    l4 := Nat.le_trans hg.l4 hq
    hB := Nat.le_trans hg.hB hS.1
    ol := fun b hb => (hS.2 b (Nat.lt_of_lt_of_le hb hg.hB) (by rw [hg.ol b hb]; omega)).1.trans (hg.ol b hb) }
theorem set_app (cs fc : List Value) (n j : Nat) (hn : cs.length = n) (v : Value) : (cs ++ fc).set (n + j) v = cs ++ fc.set j v := by
  subst hn
  rw [List.set_append_right _ _ (by omega), Nat.add_sub_cancel_left]
/-- One part more lies at the top frame's end. -/
theorem RdR.appended {B q bx g c : Nat} {src : ByteArray} {s : St} {E : Nat × Nat} {col : Nat → Nat} {dv cv : Value} {w w2 : World} (hg : RdR B q bx src s E col (.slice (some ⟨g, 0, none⟩) (s.rest.length + 1) c) dv cv w)
    {cs ks : List Value} {vn vk kv : Value} (hcg : col g = 2) (hown : w.ownsRow B 93 14 (.slice (some ⟨g, 0, none⟩) (s.rest.length + 1) c) (s.rest.length + 1) (cs ++ frRow s.top vn vk kv)) (hcl : cs.length = s.rest.length * 14) (hkl : s.top.kids.len ≤ q)
    (hfn : Strs (Ok col w) w vn (s.top.names.map mkB)) (hfk : Parts (Ok col w) w vk s.top.fst) (hStk : StkC B col w q s.rest cs) (hcol : ∀ g, kv.ownBlock = some g → col g = 6 + 2 * s.rest.length) (hrow : RowC (Ok col w) w s.top.kids ks)
    {h : Hd} {k e : Pt} {vn' vk' ve' : Value} (hn : Strs (Ok col w) w vn' h.names) (hk : Parts (Ok col w) w vk' k) (he : Parts (Ok col w) w ve' e)
    (hsz : w.heap.size ≤ w2.heap.size) (hbl : ∀ b, b < w.heap.size → some b ≠ kv.ownBlock → w2.heap[b]? = w.heap[b]?) {g2 cap2 : Nat}
    (hown2 : w2.ownsRow B 58 8 (.slice (some ⟨g2, 0, none⟩) (s.top.kids.len + 1) cap2) (s.top.kids.len + 1) (ks ++ hdCells h vn' vk' ve')) (hat : kv.ownBlock = some g2 ∨ w.heap.size ≤ g2) :
    RdN B (q + 1) bx src (s.put h k e) E (w2.setCell ⟨g, s.rest.length * 14 + 10, none⟩ (.slice (some ⟨g2, 0, none⟩) (s.top.kids.len + 1) cap2)) := by
  have hgl : g < w.heap.size := (World.ownsRow.lt hown g rfl).2
  have hdye : ∀ b, b < w.heap.size → col b ≠ 6 + 2 * s.rest.length → dye col g2 (6 + 2 * s.rest.length) b = col b := by
    intro b hb hc
    unfold dye
    rw [if_neg]
    rintro rfl
    rcases hat with h1 | h1
    · exact hc (hcol _ h1)
    · omega
  have hne : g ≠ g2 := by
    rintro rfl
    rcases hat with h1 | h1
    · have := hcol _ h1; omega
    · omega
  have hS3 : Same (fun c => c ≠ 2 ∧ c ≠ 6 + 2 * s.rest.length) col (dye col g2 (6 + 2 * s.rest.length)) w (w2.setCell ⟨g, s.rest.length * 14 + 10, none⟩ (.slice (some ⟨g2, 0, none⟩) (s.top.kids.len + 1) cap2)) := by
    refine ⟨by simp [World.setCell]; exact hsz, fun b hb hc => ⟨hdye b hb hc.2, ?_⟩⟩
    rw [Below.heap_setCell _ _ _ _ (fun e => by have e2 : b = g := e; rw [e2] at hc; exact hc.1 hcg)]
    exact hbl b hb (fun e => hc.2 (hcol b e.symm))
  have c0 : (fun c => c ≠ 2 ∧ c ≠ 6 + 2 * s.rest.length) 0 := ⟨by omega, by omega⟩
  have hownw2 : w2.ownsRow B 93 14 (.slice (some ⟨g, 0, none⟩) (s.rest.length + 1) c) (s.rest.length + 1) (cs ++ frRow s.top vn vk kv) := ownsRow.same hown (fun g' hg' => by
    have : g = g' := by simpa [Value.ownBlock] using hg'
    subst this
    exact hbl g hgl (fun e => by have := hcol g e.symm; omega))
  have hown3 := own_setAt hownw2 (s.rest.length * 14 + 10) (.slice (some ⟨g2, 0, none⟩) (s.top.kids.len + 1) cap2)
  rw [set_app _ _ _ _ hcl] at hown3
  refine ⟨_, _, _, _, hg.retop hS3 (Nat.le_succ q) rfl hown3 ((hdye g hgl (by omega)).trans hcg) hStk (f' := { s.top with kids := s.top.kids.app (.one h k e) }) ⟨?_, vn, vk, .slice (some ⟨g2, 0, none⟩) (s.top.kids.len + 1) cap2, rfl, hS3.strs c0 hfn, hS3.parts c0 hfk, ?_⟩⟩
  · show (s.top.kids.app (.one h k e)).len ≤ q + 1
    rw [Pt.len_app]; simp only [Pt.one, Pt.len]; omega
  · refine ⟨ks ++ hdCells h vn' vk' ve', ⟨?_, ?_⟩, ?_⟩
    · show World.ownsRow _ _ _ _ _ (s.top.kids.app (.one h k e)).len _
      rw [Pt.len_app]
      refine ownsRow.same hown2 (fun g' hg' => ?_)
      have : g2 = g' := by simpa [Value.ownBlock] using hg'
      subst this
      exact Below.heap_setCell _ _ _ _ (fun e => hne e.symm)
    · intro g' hg'
      have : g2 = g' := by simpa [Value.ownBlock] using hg'
      subst this
      unfold dye; rw [if_pos rfl]
    · exact RowC.app _ _ _ _ (RowC.same hS3 c0 _ _ hrow) ⟨vn', vk', ve', [], by simp [hdCells], hS3.strs c0 hn, hS3.parts c0 hk, hS3.parts c0 he, rfl⟩
end Go.Proofs.YtdgcdjpjnhlihaaGreatDoor
set_option linter.unusedVariables false
set_option linter.unusedSimpArgs false
namespace Go.Proofs.YtdgcdjpjnhlihaaGreatDoor
open Go.RowKit Go.Shelf

theorem infoFrame : (Tryz.prog.info? 93).map (fun i => (i.zero, i.size, i.bytes)) = some (some (.agg #[.int .i64 0, .int .u8 0, .int .i64 0, .string ⟨#[]⟩, .bool false, .slice none 0 0, .string ⟨#[]⟩, .slice none 0 0, .slice none 0 0, .bool false, .slice none 0 0, .string ⟨#[]⟩, .int .i64 0, .slice none 0 0]), 14, 216) := by kernel_rfl
/-- A frame more is being read. -/
theorem RdR.pushed {B q bx : Nat} {src : ByteArray} {s : St} {E : Nat × Nat} {col : Nat → Nat} {sv dv cv : Value} {w w2 : World} (hg : RdR B q bx src s E col sv dv cv w) {f : Fr} {vn : Value} {cs : List Value}
    (hcol : ∀ g, sv.ownBlock = some g → col g = 2) (hStk : StkC B col w q (s.top :: s.rest) cs) (hfn : Strs (Ok col w) w vn (f.names.map mkB)) (hf1 : f.fst = .nil) (hf2 : f.kids = .nil)
    (hsz : w.heap.size ≤ w2.heap.size) (hbl : ∀ b, b < w.heap.size → some b ≠ sv.ownBlock → w2.heap[b]? = w.heap[b]?) {g2 cap2 : Nat}
    (hown : w2.ownsRow B 93 14 (.slice (some ⟨g2, 0, none⟩) (s.rest.length + 1 + 1) cap2) (s.rest.length + 1 + 1) (cs ++ frRow f vn (.slice none 0 0) (.slice none 0 0))) (hat : sv.ownBlock = some g2 ∨ w.heap.size ≤ g2) :
    RdN B (q + 1) bx src { s with top := f, rest := s.top :: s.rest } E (w2.setCell ⟨bx, 1, none⟩ (.slice (some ⟨g2, 0, none⟩) (s.rest.length + 1 + 1) cap2)) := by
  have hbxl := lt_of_block hg.hx
  have hS := same_grown (j := 1) (u := .slice (some ⟨g2, 0, none⟩) (s.rest.length + 1 + 1) cap2) hg.cx (by decide : (1 : Nat) ≠ 2) hcol hsz hbl hat
  have hx2 : w2.heap[bx]? = some (.cells (rrCells src sv dv s.many cv E) 96 (0, 0)) := (hbl bx hbxl (fun e => by have := hcol bx e.symm; rw [hg.cx] at this; cases this)).trans hg.hx
  have hne : g2 ≠ bx := by
    rintro rfl
    rcases hat with h1 | h1
    · have := hcol _ h1; rw [hg.cx] at this; cases this
    · omega
  have c0 : (fun k => k ≠ 1 ∧ k ≠ 2) 0 := ⟨by decide, by decide⟩
  exact ⟨dye col g2 2, .slice (some ⟨g2, 0, none⟩) (s.rest.length + 1 + 1) cap2, dv, cv, {
    bb := hg.bb
    cx := (dye_old (Ne.symm hne)).trans hg.cx
    hx := set_cells (j := 1) hx2 (.slice (some ⟨g2, 0, none⟩) (s.rest.length + 1 + 1) cap2)
    st := ⟨cs ++ frRow f vn (.slice none 0 0) (.slice none 0 0), ⟨own_set hown _ _ _ (fun e => hne (by simpa [Value.ownBlock] using e)), fun g hg' => by
      have : g2 = g := by simpa [Value.ownBlock] using hg'
      rw [← this]; exact dye_new _ _⟩, cs, _, rfl, ⟨by rw [hf2]; exact Nat.zero_le _, vn, _, _, rfl, hS.strs c0 hfn, by rw [hf1]; exact Parts.nil _ _, by rw [hf2]; exact Kids.nil _ _ _ _⟩, hStk.same hS c0 (Nat.le_succ q) _ _ (fun i _ => ⟨by omega, by omega⟩)⟩
    df := hg.df.same hS c0 ⟨by decide, by decide⟩
    cl := hg.cl.same hS ⟨by decide, by decide⟩
    l1 := Nat.le_succ_of_le hg.l1
    l2 := Nat.succ_le_succ hg.l2
    l3 := Nat.le_succ_of_le hg.l3
    l4 := Nat.le_succ_of_le hg.l4
    hB := Nat.le_trans hg.hB hS.1
    ol := fun b hb => (dye_old (by have := own_ge hown; omega)).trans (hg.ol b hb) }⟩
def begE (n : Nat) (E : Nat × Nat) (at_ : Nat) : Nat × Nat := if 64 < n + 1 then lat E 193 at_ else E
theorem same1 {col : Nat → Nat} {w w' : World} (h : Same (fun c => c ≠ 1) col col w w') {b : Nat} (hb : b < w.heap.size) (hc : col b ≠ 1) : w'.heap[b]? = w.heap[b]? := (h.2 b hb hc).2
set_option maxRecDepth 100000 in
set_option maxHeartbeats 8000000 in
theorem beginM_calls (B q bx at_ : Nat) (hq : q ≤ 16777216) (src : ByteArray) (s : St) (E : Nat × Nat) (f : Fr) (kd kp pp pd : Int) (rt : Bool) (nm : ByteArray) (an : Option Addr) (nl cn : Nat) (col : Nat → Nat) (sv dv cv : Value) (w : World) (hg : RdR B q bx src s E col sv dv cv w)
    (hrow : frRow f (.slice an nl cn) (.slice none 0 0) (.slice none 0 0) = [.int .i64 kd, .int .u8 kp, .int .i64 pp, .string ⟨#[]⟩, .bool rt, .slice an nl cn, .string ⟨#[]⟩, .slice none 0 0, .slice none 0 0, .bool false, .slice none 0 0, .string nm, .int .i64 pd, .slice none 0 0])
    (hfn : Strs (Ok col w) w (.slice an nl cn) (f.names.map mkB)) (hf1 : f.fst = .nil) (hf2 : f.kids = .nil) :
    Calls Tryz.prog 90 #[.pointer (some ⟨bx, 0, none⟩), .agg #[.int .i64 kd, .int .u8 kp, .int .i64 pp, .string ⟨#[]⟩, .bool rt, .slice an nl cn, .string ⟨#[]⟩, .slice none 0 0, .slice none 0 0, .bool false, .slice none 0 0, .string nm, .int .i64 pd, .slice none 0 0], .int .i64 (at_ : Nat)] w (RnP B (q + 1) bx src { s with top := f, rest := s.top :: s.rest } (begE s.rest.length E at_) w) := by
  have hg0 := hg.same (same_dyed w (.cells #[.int .i64 kd, .int .u8 kp, .int .i64 pp, .string ⟨#[]⟩, .bool rt, .slice an nl cn, .string ⟨#[]⟩, .slice none 0 0, .slice none 0 0, .bool false, .slice none 0 0, .string nm, .int .i64 pd, .slice none 0 0] 93) 5) (fun _ _ _ => trivial) (Nat.le_refl q)
  have hfn0 := (same_dyed (col := col) w (.cells #[.int .i64 kd, .int .u8 kp, .int .i64 pp, .string ⟨#[]⟩, .bool rt, .slice an nl cn, .string ⟨#[]⟩, .slice none 0 0, .slice none 0 0, .bool false, .slice none 0 0, .string nm, .int .i64 pd, .slice none 0 0] 93) 5).strs trivial hfn
  have HF0 : Hid ((w.alloc (.cells #[.int .i64 kd, .int .u8 kp, .int .i64 pp, .string ⟨#[]⟩, .bool rt, .slice an nl cn, .string ⟨#[]⟩, .slice none 0 0, .slice none 0 0, .bool false, .slice none 0 0, .string nm, .int .i64 pd, .slice none 0 0] 93)).heap[w.heap.size]? = some (.cells #[.int .i64 kd, .int .u8 kp, .int .i64 pp, .string ⟨#[]⟩, .bool rt, .slice an nl cn, .string ⟨#[]⟩, .slice none 0 0, .slice none 0 0, .bool false, .slice none 0 0, .string nm, .int .i64 pd, .slice none 0 0] 93 (0, 0))) := heap_alloc_new w _
  have HB0 : Hid (Below B w (w.alloc (.cells #[.int .i64 kd, .int .u8 kp, .int .i64 pp, .string ⟨#[]⟩, .bool rt, .slice an nl cn, .string ⟨#[]⟩, .slice none 0 0, .slice none 0 0, .bool false, .slice none 0 0, .string nm, .int .i64 pd, .slice none 0 0] 93))) := (Below.refl B w).alloc hg.hB _
  have HZ0 : Hid (w.heap.size < (w.alloc (.cells #[.int .i64 kd, .int .u8 kp, .int .i64 pp, .string ⟨#[]⟩, .bool rt, .slice an nl cn, .string ⟨#[]⟩, .slice none 0 0, .slice none 0 0, .bool false, .slice none 0 0, .string nm, .int .i64 pd, .slice none 0 0] 93)).heap.size) := by unfold Hid; simp
  have hc5 : dye col w.heap.size 5 w.heap.size = 5 := dye_new _ _
  have hBw : B ≤ w.heap.size := hg.hB
  obtain ⟨g, c, cs0, vn0, vk0, kv0, rfl, hc1, hc2, -⟩ := hg.top
  obtain ⟨-, c1, -⟩ := hg0.cells
  have hl2 := hg.l2
  have FC := Lib.hid (failR_calls B q bx 193 at_ src s E _ _ _ _ _ hg0)
  have HROW := Lib.hid hrow
  have HG0 := Lib.hid hg0
  have HN0 := Lib.hid hfn0
  generalize dye col w.heap.size 5 = col0 at *
  clear hg hg0 hfn0 hrow hfn
  unfold begE
  by_cases hgt : 64 < s.rest.length + 1
  · have hgt' : (64 : Int) < ((s.rest.length + 1 : Nat) : Int) := by omega
    rw [if_pos hgt]
    clear hgt
    go_enter Tryz.func90, Tryz.ntmps90
    go_wp2_with fail
    refine FC.out.mono ?_
    rintro e w1 ⟨rfl, hb1, hs1, hg1⟩
    have HB1 := Lib.hid (HB0.out.trans hb1)
    have HN1 := Lib.hid (hs1.strs (by decide) HN0.out)
    have HF1 : Hid (w1.heap[w.heap.size]? = _) := (same1 hs1 HZ0.out (by rw [hc5]; decide)).trans HF0.out
    have HZ1 : Hid (w.heap.size < w1.heap.size) := Nat.lt_of_lt_of_le HZ0.out hs1.1
    clear hb1 hs1 HF0 HB0 HZ0 HN0 HG0 FC c1
    generalize hE1 : lat E 193 at_ = E1 at *
    clear hE1
    go_upto_region 3 with (fail)
    obtain ⟨-, c1, -, -, -, -, -, -, fz⟩ := hg1.cells
    obtain ⟨cs, hst, hStk⟩ := hg1.st
    have hown := hst.1
    have hcol := hst.2
    have hbx := lt_of_block hg1.hx
    have hz := HZ1.out
    have hF := cell_of_heap' HF1.out
    have p0 : w1.cell? ⟨w.heap.size, 0, none⟩ = some (.int .i64 kd) := hF 0
    have p1 : w1.cell? ⟨w.heap.size, 1, none⟩ = some (.int .u8 kp) := hF 1
    have p2 : w1.cell? ⟨w.heap.size, 2, none⟩ = some (.int .i64 pp) := hF 2
    have p3 : w1.cell? ⟨w.heap.size, 3, none⟩ = some (.string ⟨#[]⟩) := hF 3
    have p4 : w1.cell? ⟨w.heap.size, 4, none⟩ = some (.bool rt) := hF 4
    have p5 : w1.cell? ⟨w.heap.size, 5, none⟩ = some (.slice an nl cn) := hF 5
    have p6 : w1.cell? ⟨w.heap.size, 6, none⟩ = some (.string ⟨#[]⟩) := hF 6
    have p7 : w1.cell? ⟨w.heap.size, 7, none⟩ = some (.slice none 0 0) := hF 7
    have p8 : w1.cell? ⟨w.heap.size, 8, none⟩ = some (.slice none 0 0) := hF 8
    have p9 : w1.cell? ⟨w.heap.size, 9, none⟩ = some (.bool false) := hF 9
    have p10 : w1.cell? ⟨w.heap.size, 10, none⟩ = some (.slice none 0 0) := hF 10
    have p11 : w1.cell? ⟨w.heap.size, 11, none⟩ = some (.string nm) := hF 11
    have p12 : w1.cell? ⟨w.heap.size, 12, none⟩ = some (.int .i64 pd) := hF 12
    have p13 : w1.cell? ⟨w.heap.size, 13, none⟩ = some (.slice none 0 0) := hF 13
    clear hF
    have pa : ∀ ob j, (w1.alloc ob).cell? ⟨w.heap.size, j, none⟩ = w1.cell? ⟨w.heap.size, j, none⟩ := fun ob j => World.cell?_alloc_old w1 _ _ (Nat.ne_of_lt hz)
    have r0 := fun ob => (pa ob 0).trans p0
    have r1 := fun ob => (pa ob 1).trans p1
    have r2 := fun ob => (pa ob 2).trans p2
    have r3 := fun ob => (pa ob 3).trans p3
    have r4 := fun ob => (pa ob 4).trans p4
    have r5 := fun ob => (pa ob 5).trans p5
    have r6 := fun ob => (pa ob 6).trans p6
    have r7 := fun ob => (pa ob 7).trans p7
    have r8 := fun ob => (pa ob 8).trans p8
    have r9 := fun ob => (pa ob 9).trans p9
    have r10 := fun ob => (pa ob 10).trans p10
    have r11 := fun ob => (pa ob 11).trans p11
    have r12 := fun ob => (pa ob 12).trans p12
    have r13 := fun ob => (pa ob 13).trans p13
    clear pa
    have c1a : ∀ ob, (w1.alloc ob).cell? ⟨bx, 1, none⟩ = some (.slice (some ⟨g, 0, none⟩) (s.rest.length + 1) c) := fun ob => (World.cell?_alloc_old w1 _ _ (Nat.ne_of_lt hbx)).trans c1
    have hownA : ∀ o, (w1.alloc o).ownsRow B 93 14 (.slice (some ⟨g, 0, none⟩) (s.rest.length + 1) c) (s.rest.length + 1) cs := fun o => World.ownsRow.alloc hown o
    have hnewsA : ∀ j u, ([.int .i64 kd, .int .u8 kp, .int .i64 pp, .string ⟨#[]⟩, .bool rt, .slice an nl cn, .string ⟨#[]⟩, .slice none 0 0, .slice none 0 0, .bool false, .slice none 0 0, .string nm, .int .i64 pd, .slice none 0 0] : List Value)[j]? = some u → (w1.alloc (.cells #[.int .i64 kd, .int .u8 kp, .int .i64 pp, .string ⟨#[]⟩, .bool rt, .slice an nl cn, .string ⟨#[]⟩, .slice none 0 0, .slice none 0 0, .bool false, .slice none 0 0, .string nm, .int .i64 pd, .slice none 0 0] 93)).cell? ((⟨w1.heap.size, 0, none⟩ : Addr).add j) = some u := by
      intro j u hj
      have hb := heap_alloc_new w1 (.cells #[.int .i64 kd, .int .u8 kp, .int .i64 pp, .string ⟨#[]⟩, .bool rt, .slice an nl cn, .string ⟨#[]⟩, .slice none 0 0, .slice none 0 0, .bool false, .slice none 0 0, .string nm, .int .i64 pd, .slice none 0 0] 93)
      have hadd : (⟨w1.heap.size, 0, none⟩ : Addr).add j = ⟨w1.heap.size, j, none⟩ := by unfold Addr.add; split <;> simp_all
      rw [hadd, cell_of_heap' hb]
      simpa using hj
    have hone : ∀ u ∈ ([.int .i64 kd, .int .u8 kp, .int .i64 pp, .string ⟨#[]⟩, .bool rt, .slice an nl cn, .string ⟨#[]⟩, .slice none 0 0, .slice none 0 0, .bool false, .slice none 0 0, .string nm, .int .i64 pd, .slice none 0 0] : List Value), u.oneCell' = true := by
      intro u hu
      simp only [List.mem_cons, List.not_mem_nil, or_false] at hu
      rcases hu with rfl | rfl | rfl | rfl | rfl | rfl | rfl | rfl | rfl | rfl | rfl | rfl | rfl | rfl <;> rfl
    obtain ⟨i0, hi, hz0, hz1, hz2⟩ := info_parts infoFrame
    have hBw1 : B ≤ w1.heap.size + 1 := by have := hg1.hB; omega
    have hnk : some bx ≠ (Value.slice (some ⟨g, 0, none⟩) (s.rest.length + 1) c).ownBlock := fun e => by have := hcol bx e.symm; rw [hg1.cx] at this; cases this
    have hLM : s.rest.length + 1 + 1 ≤ maxLen := by unfold maxLen; omega
    have hLB : (s.rest.length + 1 + 1) * 216 ≤ 140737488355328 := by omega
    go_region_law (refine step_append_lies _ (by rfl) _ _ _ (by rfl) B 93 i0 _ 14 216 Tryz.underlying94 hi hz0 hz1 hz2 (by rfl) (by decide) (.slice (some ⟨g, 0, none⟩) (s.rest.length + 1) c) (s.rest.length + 1) cs (by rfl) (by exact hownA _) ⟨w1.heap.size, 0, none⟩ 1 1 [.int .i64 kd, .int .u8 kp, .int .i64 pp, .string ⟨#[]⟩, .bool rt, .slice an nl cn, .string ⟨#[]⟩, .slice none 0 0, .slice none 0 0, .bool false, .slice none 0 0, .string nm, .int .i64 pd, .slice none 0 0] (by rfl) (by rfl) (by exact hnewsA) hone (by decide) hLM hLB (by simp; omega) (w1.heap.size + 1) (by simp) ?_; intro g2 cap2 w2 hown2 hgrow2 hat2 hlt2; have hx2 := (hgrow2.block bx (by simp; omega) hnk).trans ((Below.heap_alloc _ _ _ hbx).trans hg1.hx); have s1 : w2.cell? ⟨bx, 1, none⟩ = some (.slice (some ⟨g, 0, none⟩) (s.rest.length + 1) c) := (by rw [cell_of_heap' hx2]; rfl); have z1 := frozen_cells hx2 1)
    all_goals
      have hgr : (w1.alloc (.cells #[.int .i64 kd, .int .u8 kp, .int .i64 pp, .string ⟨#[]⟩, .bool rt, .slice an nl cn, .string ⟨#[]⟩, .slice none 0 0, .slice none 0 0, .bool false, .slice none 0 0, .string nm, .int .i64 pd, .slice none 0 0] 93)).grownBy w2 (Value.slice (some ⟨g, 0, none⟩) (s.rest.length + 1) c).ownBlock := ⟨hgrow2.os, hgrow2.tape, hgrow2.output, hgrow2.size, hgrow2.block⟩
      clear hgrow2
      have hsz2 : w1.heap.size ≤ w2.heap.size := by have := hgr.size; simp at this; omega
      have hbl2 : ∀ b, b < w1.heap.size → some b ≠ (Value.slice (some ⟨g, 0, none⟩) (s.rest.length + 1) c).ownBlock → w2.heap[b]? = w1.heap[b]? := fun b hb hn => (hgr.block b (by simp; omega) hn).trans (Below.heap_alloc _ _ _ hb)
      rw [← HROW.out] at hown2
      have hF := Lib.hid (hg1.pushed hcol hStk HN1.out hf1 hf2 hsz2 hbl2 hown2 (hat2.imp id (fun e => by omega)))
      have hB3 := Lib.hid (((HB1.out.alloc hg1.hB (.cells #[.int .i64 kd, .int .u8 kp, .int .i64 pp, .string ⟨#[]⟩, .bool rt, .slice an nl cn, .string ⟨#[]⟩, .slice none 0 0, .slice none 0 0, .bool false, .slice none 0 0, .string nm, .int .i64 pd, .slice none 0 0] 93)).grown hgr (by simp; omega) (fun k hk => (World.ownsRow.lt hown k hk).1)).setCell (p := ⟨bx, 1, none⟩) hg1.bb (.slice (some ⟨g2, 0, none⟩) (s.rest.length + 1 + 1) cap2))
      clear hx2 s1 z1 hbl2 hown2 hgr p0 p1 p2 p3 p4 p5 p6 p7 p8 p9 p10 p11 p12 p13 r0 r1 r2 r3 r4 r5 r6 r7 r8 r9 r10 r11 r12 r13 hownA hnewsA hone
      go_end0
      exact ⟨rfl, hB3.out, hF.out⟩
  · have hgt' : ¬ (64 : Int) < ((s.rest.length + 1 : Nat) : Int) := by omega
    rw [if_neg hgt]
    clear hgt FC
    go_enter Tryz.func90, Tryz.ntmps90
    go_upto_region 3 with (fail)
    generalize hW1 : World.alloc w _ = w1 at *
    clear hW1
    have hg1 := HG0.out
    have HN1 := HN0
    have HF1 := HF0
    have HB1 := HB0
    have HZ1 := HZ0
    generalize hE1 : E = E1 at *
    clear hE1 HF0 HB0 HZ0 HN0 HG0 c1
    obtain ⟨-, c1, -, -, -, -, -, -, fz⟩ := hg1.cells
    obtain ⟨cs, hst, hStk⟩ := hg1.st
    have hown := hst.1
    have hcol := hst.2
    have hbx := lt_of_block hg1.hx
    have hz := HZ1.out
    have hF := cell_of_heap' HF1.out
    have p0 : w1.cell? ⟨w.heap.size, 0, none⟩ = some (.int .i64 kd) := hF 0
    have p1 : w1.cell? ⟨w.heap.size, 1, none⟩ = some (.int .u8 kp) := hF 1
    have p2 : w1.cell? ⟨w.heap.size, 2, none⟩ = some (.int .i64 pp) := hF 2
    have p3 : w1.cell? ⟨w.heap.size, 3, none⟩ = some (.string ⟨#[]⟩) := hF 3
    have p4 : w1.cell? ⟨w.heap.size, 4, none⟩ = some (.bool rt) := hF 4
    have p5 : w1.cell? ⟨w.heap.size, 5, none⟩ = some (.slice an nl cn) := hF 5
    have p6 : w1.cell? ⟨w.heap.size, 6, none⟩ = some (.string ⟨#[]⟩) := hF 6
    have p7 : w1.cell? ⟨w.heap.size, 7, none⟩ = some (.slice none 0 0) := hF 7
    have p8 : w1.cell? ⟨w.heap.size, 8, none⟩ = some (.slice none 0 0) := hF 8
    have p9 : w1.cell? ⟨w.heap.size, 9, none⟩ = some (.bool false) := hF 9
    have p10 : w1.cell? ⟨w.heap.size, 10, none⟩ = some (.slice none 0 0) := hF 10
    have p11 : w1.cell? ⟨w.heap.size, 11, none⟩ = some (.string nm) := hF 11
    have p12 : w1.cell? ⟨w.heap.size, 12, none⟩ = some (.int .i64 pd) := hF 12
    have p13 : w1.cell? ⟨w.heap.size, 13, none⟩ = some (.slice none 0 0) := hF 13
    clear hF
    have pa : ∀ ob j, (w1.alloc ob).cell? ⟨w.heap.size, j, none⟩ = w1.cell? ⟨w.heap.size, j, none⟩ := fun ob j => World.cell?_alloc_old w1 _ _ (Nat.ne_of_lt hz)
    have r0 := fun ob => (pa ob 0).trans p0
    have r1 := fun ob => (pa ob 1).trans p1
    have r2 := fun ob => (pa ob 2).trans p2
    have r3 := fun ob => (pa ob 3).trans p3
    have r4 := fun ob => (pa ob 4).trans p4
    have r5 := fun ob => (pa ob 5).trans p5
    have r6 := fun ob => (pa ob 6).trans p6
    have r7 := fun ob => (pa ob 7).trans p7
    have r8 := fun ob => (pa ob 8).trans p8
    have r9 := fun ob => (pa ob 9).trans p9
    have r10 := fun ob => (pa ob 10).trans p10
    have r11 := fun ob => (pa ob 11).trans p11
    have r12 := fun ob => (pa ob 12).trans p12
    have r13 := fun ob => (pa ob 13).trans p13
    clear pa
    have c1a : ∀ ob, (w1.alloc ob).cell? ⟨bx, 1, none⟩ = some (.slice (some ⟨g, 0, none⟩) (s.rest.length + 1) c) := fun ob => (World.cell?_alloc_old w1 _ _ (Nat.ne_of_lt hbx)).trans c1
    have hownA : ∀ o, (w1.alloc o).ownsRow B 93 14 (.slice (some ⟨g, 0, none⟩) (s.rest.length + 1) c) (s.rest.length + 1) cs := fun o => World.ownsRow.alloc hown o
    have hnewsA : ∀ j u, ([.int .i64 kd, .int .u8 kp, .int .i64 pp, .string ⟨#[]⟩, .bool rt, .slice an nl cn, .string ⟨#[]⟩, .slice none 0 0, .slice none 0 0, .bool false, .slice none 0 0, .string nm, .int .i64 pd, .slice none 0 0] : List Value)[j]? = some u → (w1.alloc (.cells #[.int .i64 kd, .int .u8 kp, .int .i64 pp, .string ⟨#[]⟩, .bool rt, .slice an nl cn, .string ⟨#[]⟩, .slice none 0 0, .slice none 0 0, .bool false, .slice none 0 0, .string nm, .int .i64 pd, .slice none 0 0] 93)).cell? ((⟨w1.heap.size, 0, none⟩ : Addr).add j) = some u := by
      intro j u hj
      have hb := heap_alloc_new w1 (.cells #[.int .i64 kd, .int .u8 kp, .int .i64 pp, .string ⟨#[]⟩, .bool rt, .slice an nl cn, .string ⟨#[]⟩, .slice none 0 0, .slice none 0 0, .bool false, .slice none 0 0, .string nm, .int .i64 pd, .slice none 0 0] 93)
      have hadd : (⟨w1.heap.size, 0, none⟩ : Addr).add j = ⟨w1.heap.size, j, none⟩ := by unfold Addr.add; split <;> simp_all
      rw [hadd, cell_of_heap' hb]
      simpa using hj
    have hone : ∀ u ∈ ([.int .i64 kd, .int .u8 kp, .int .i64 pp, .string ⟨#[]⟩, .bool rt, .slice an nl cn, .string ⟨#[]⟩, .slice none 0 0, .slice none 0 0, .bool false, .slice none 0 0, .string nm, .int .i64 pd, .slice none 0 0] : List Value), u.oneCell' = true := by
      intro u hu
      simp only [List.mem_cons, List.not_mem_nil, or_false] at hu
      rcases hu with rfl | rfl | rfl | rfl | rfl | rfl | rfl | rfl | rfl | rfl | rfl | rfl | rfl | rfl <;> rfl
    obtain ⟨i0, hi, hz0, hz1, hz2⟩ := info_parts infoFrame
    have hBw1 : B ≤ w1.heap.size + 1 := by have := hg1.hB; omega
    have hnk : some bx ≠ (Value.slice (some ⟨g, 0, none⟩) (s.rest.length + 1) c).ownBlock := fun e => by have := hcol bx e.symm; rw [hg1.cx] at this; cases this
    have hLM : s.rest.length + 1 + 1 ≤ maxLen := by unfold maxLen; omega
    have hLB : (s.rest.length + 1 + 1) * 216 ≤ 140737488355328 := by omega
    go_region_law (refine step_append_lies _ (by rfl) _ _ _ (by rfl) B 93 i0 _ 14 216 Tryz.underlying94 hi hz0 hz1 hz2 (by rfl) (by decide) (.slice (some ⟨g, 0, none⟩) (s.rest.length + 1) c) (s.rest.length + 1) cs (by rfl) (by exact hownA _) ⟨w1.heap.size, 0, none⟩ 1 1 [.int .i64 kd, .int .u8 kp, .int .i64 pp, .string ⟨#[]⟩, .bool rt, .slice an nl cn, .string ⟨#[]⟩, .slice none 0 0, .slice none 0 0, .bool false, .slice none 0 0, .string nm, .int .i64 pd, .slice none 0 0] (by rfl) (by rfl) (by exact hnewsA) hone (by decide) hLM hLB (by simp; omega) (w1.heap.size + 1) (by simp) ?_; intro g2 cap2 w2 hown2 hgrow2 hat2 hlt2; have hx2 := (hgrow2.block bx (by simp; omega) hnk).trans ((Below.heap_alloc _ _ _ hbx).trans hg1.hx); have s1 : w2.cell? ⟨bx, 1, none⟩ = some (.slice (some ⟨g, 0, none⟩) (s.rest.length + 1) c) := (by rw [cell_of_heap' hx2]; rfl); have z1 := frozen_cells hx2 1)
    all_goals
      have hgr : (w1.alloc (.cells #[.int .i64 kd, .int .u8 kp, .int .i64 pp, .string ⟨#[]⟩, .bool rt, .slice an nl cn, .string ⟨#[]⟩, .slice none 0 0, .slice none 0 0, .bool false, .slice none 0 0, .string nm, .int .i64 pd, .slice none 0 0] 93)).grownBy w2 (Value.slice (some ⟨g, 0, none⟩) (s.rest.length + 1) c).ownBlock := ⟨hgrow2.os, hgrow2.tape, hgrow2.output, hgrow2.size, hgrow2.block⟩
      clear hgrow2
      have hsz2 : w1.heap.size ≤ w2.heap.size := by have := hgr.size; simp at this; omega
      have hbl2 : ∀ b, b < w1.heap.size → some b ≠ (Value.slice (some ⟨g, 0, none⟩) (s.rest.length + 1) c).ownBlock → w2.heap[b]? = w1.heap[b]? := fun b hb hn => (hgr.block b (by simp; omega) hn).trans (Below.heap_alloc _ _ _ hb)
      rw [← HROW.out] at hown2
      have hF := Lib.hid (hg1.pushed hcol hStk HN1.out hf1 hf2 hsz2 hbl2 hown2 (hat2.imp id (fun e => by omega)))
      have hB3 := Lib.hid (((HB1.out.alloc hg1.hB (.cells #[.int .i64 kd, .int .u8 kp, .int .i64 pp, .string ⟨#[]⟩, .bool rt, .slice an nl cn, .string ⟨#[]⟩, .slice none 0 0, .slice none 0 0, .bool false, .slice none 0 0, .string nm, .int .i64 pd, .slice none 0 0] 93)).grown hgr (by simp; omega) (fun k hk => (World.ownsRow.lt hown k hk).1)).setCell (p := ⟨bx, 1, none⟩) hg1.bb (.slice (some ⟨g2, 0, none⟩) (s.rest.length + 1 + 1) cap2))
      clear hx2 s1 z1 hbl2 hown2 hgr p0 p1 p2 p3 p4 p5 p6 p7 p8 p9 p10 p11 p12 p13 r0 r1 r2 r3 r4 r5 r6 r7 r8 r9 r10 r11 r12 r13 hownA hnewsA hone
      go_end0
      exact ⟨rfl, hB3.out, hF.out⟩
end Go.Proofs.YtdgcdjpjnhlihaaGreatDoor
