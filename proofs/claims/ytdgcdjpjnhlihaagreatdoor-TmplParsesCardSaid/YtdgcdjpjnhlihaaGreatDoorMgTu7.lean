/-
  The contract of lacunaref19's end. The condition: no list is longer than 2 to the 24th.
-/
/-
  The contract of lacunaref19's end at an if or a range. The condition: no list is longer than 2 to the 24th.
-/
/-
  The contract of lacunaref19's end at a define. The condition: no list is longer than 2 to the 24th.
-/
import Derived.Test.YtdgcdjpjnhlihaaGreatDoorMgTu0
import Derived.Test.YtdgcdjpjnhlihaaGreatDoorTu5M
import Derived.Test.YtdgcdjpjnhlihaaGreatDoorTepM
set_option linter.unusedVariables false
set_option linter.unusedSimpArgs false
namespace Go.Proofs.YtdgcdjpjnhlihaaGreatDoor
open Go.RowKit Go.Shelf

theorem own_short {w : World} {B n m c g sz : Nat} {e : TypeId} {xs ys : List Value} (h : w.ownsRow B e sz (.slice (some ⟨g, 0, none⟩) m c) m (xs ++ ys)) (hx : xs.length = n * sz) (hn : n ≤ m) : w.ownsRow B e sz (.slice (some ⟨g, 0, none⟩) n c) n xs := by
  obtain ⟨h1, h2⟩ := h
  rcases h2 with ⟨h2, -⟩ | ⟨g', cap, cur, h2, h3, h4, h5, h6, h7, h8⟩
  · cases h2
  · injection h2 with e1 e2 e3
    injection e1 with e1
    injection e1 with e1
    subst e1; subst e3
    refine ⟨hx, .inr ⟨g, c, cur, rfl, h3, h4, by omega, h6, h7, ?_⟩⟩
    have := congrArg (List.take (n * sz)) h8
    rw [List.take_take, Nat.min_eq_left (Nat.mul_le_mul_right sz hn), List.take_append_of_le_length (by omega), List.take_of_length_le (l := xs) (by omega)] at this
    exact this
/-- The frame on top is taken off. -/
theorem RdR.popped {B q bx g c : Nat} {src : ByteArray} {f f2 : Fr} {r : List Fr} {defs : List Df} {many : Nat} {calls : List (By × Nat)} {E : Nat × Nat} {col : Nat → Nat} {dv cv : Value} {w : World}
    (hg : RdR B q bx src ⟨f, f2 :: r, defs, many, calls⟩ E col (.slice (some ⟨g, 0, none⟩) (r.length + 1 + 1) c) dv cv w) :
    RdR B q bx src ⟨f2, r, defs, many, calls⟩ E col (.slice (some ⟨g, 0, none⟩) (r.length + 1) c) dv cv (w.setCell ⟨bx, 1, none⟩ (.slice (some ⟨g, 0, none⟩) (r.length + 1) c)) := by
  have hS := same_set col w bx 1 1 (.slice (some ⟨g, 0, none⟩) (r.length + 1) c) hg.cx
  obtain ⟨cs0, ⟨h1, h2⟩, cs, fc, rfl, hF, hStk⟩ := hg.st
  have hgc : col g = 2 := h2 g rfl
  have hl := StkC.len _ _ hStk
  have hl2 := hg.l2
  exact {
    bb := hg.bb
    cx := hg.cx
    hx := set_cells (j := 1) hg.hx _
    st := ⟨cs, ⟨own_set (own_short h1 hl (Nat.le_succ _)) _ _ _ (fun e => by
      have e2 : g = bx := by simpa [Value.ownBlock] using e
      have := hg.cx; rw [← e2, hgc] at this; cases this), fun g' hg' => by
      have : g = g' := by simpa [Value.ownBlock] using hg'
      rw [← this]; exact hgc⟩, hStk.same hS (by decide) (Nat.le_refl q) _ _ (fun i _ => by omega)⟩
    df := hg.df.same hS (by decide) (by decide)
    cl := hg.cl.same hS (by decide)
    l1 := hg.l1
    l2 := by have : r.length + 1 ≤ q := hl2; show r.length ≤ q; omega
    l3 := hg.l3
    l4 := hg.l4
    hB := Nat.le_trans hg.hB hS.1
    ol := hg.ol }
theorem same_tr {C : Nat → Prop} {a b c : Nat → Nat} {w1 w2 w3 : World} (h : Same C a b w1 w2) (k : Same C b c w2 w3) : Same C a c w1 w3 := ⟨Nat.le_trans h.1 k.1, fun x hx hc => by
  have h1 := h.2 x hx hc
  have h2 := k.2 x (Nat.lt_of_lt_of_le hx h.1) (by rw [h1.1]; exact hc)
  exact ⟨h2.1.trans h1.1, h2.2.trans h1.2⟩⟩
/-- What stood in the frame on top, and the reader without it. -/
theorem RdR.closed {B q bx g c : Nat} {src : ByteArray} {f f2 : Fr} {r : List Fr} {defs : List Df} {many : Nat} {calls : List (By × Nat)} {E : Nat × Nat} {col : Nat → Nat} {dv cv vn vk kv : Value} {w : World}
    (hg : RdR B q bx src ⟨f, f2 :: r, defs, many, calls⟩ E col (.slice (some ⟨g, 0, none⟩) (r.length + 1 + 1) c) dv cv w)
    (hn : Strs (Ok col w) w vn (f.names.map mkB)) (hp : Parts (Ok col w) w vk f.fst) (hK : Kids B col w (6 + 2 * (r.length + 1)) kv f.kids) :
    let W := w.setCell ⟨bx, 1, none⟩ (.slice (some ⟨g, 0, none⟩) (r.length + 1) c)
    RdR B q bx src ⟨f2, r, defs, many, calls⟩ E (fade col kv) (.slice (some ⟨g, 0, none⟩) (r.length + 1) c) dv cv W ∧ Strs (Ok (fade col kv) W) W vn (f.names.map mkB) ∧ Parts (Ok (fade col kv) W) W vk f.fst ∧ Parts (Ok (fade col kv) W) W kv f.kids ∧
      ∀ b, b < w.heap.size → col b = 5 → fade col kv b = 5 := by
  intro W
  have hp0 := hg.popped
  have hS1 : Same (fun k => k ≠ 1) col col w W := same_set col w bx 1 1 _ hg.cx
  have hcol : ∀ g, kv.ownBlock = some g → col g = 6 + 2 * (r.length + 1) := by
    obtain ⟨cs, ⟨-, h2⟩, -⟩ := hK
    exact h2
  have hS : Same (fun k => k ≠ 6 + 2 * (r.length + 1)) col (fade col kv) W W := ⟨Nat.le_refl _, fun b _ hc => ⟨fade_old hcol hc, rfl⟩⟩
  have hK1 : Kids B col W (6 + 2 * (r.length + 1)) kv f.kids := hK.same hS1 (by decide) (by omega)
  refine ⟨hp0.same hS (fun c hc _ => by replace hc : c ≤ 6 + 2 * r.length := hc; show c ≠ _; omega) (Nat.le_refl q), hS.strs (show (0 : Nat) ≠ _ by omega) (hS1.strs (by decide) hn), hS.parts (show (0 : Nat) ≠ _ by omega) (hS1.parts (by decide) hp), kids_faded hK1 hS (show (0 : Nat) ≠ _ by omega) (fun _ _ => rfl), fun b _ h5 => (fade_old hcol (by omega)).trans h5⟩
/-- A template more has been read. -/
theorem RdR.defd {B q bx : Nat} {src : ByteArray} {s : St} {E : Nat × Nat} {col : Nat → Nat} {sv dv cv : Value} {w w2 : World} (hg : RdR B q bx src s E col sv dv cv w) {cs : List Value} {d : Df} {v : Value}
    (hcol : ∀ g, dv.ownBlock = some g → col g = 3) (hrow : DRowC (Ok col w) w s.defs cs) (hp : Parts (Ok col w) w v d.kids)
    (hsz : w.heap.size ≤ w2.heap.size) (hbl : ∀ b, b < w.heap.size → some b ≠ dv.ownBlock → w2.heap[b]? = w.heap[b]?) {g2 cap2 : Nat}
    (hown : w2.ownsRow B 61 3 (.slice (some ⟨g2, 0, none⟩) (s.defs.length + 1) cap2) (s.defs.length + 1) (cs ++ [.string d.name, .int .i64 d.pos, v])) (hat : dv.ownBlock = some g2 ∨ w.heap.size ≤ g2) :
    RdN B (q + 1) bx src { s with defs := s.defs ++ [d] } E (w2.setCell ⟨bx, 3, none⟩ (.slice (some ⟨g2, 0, none⟩) (s.defs.length + 1) cap2)) := by
  have hbxl := lt_of_block hg.hx
  have hS := same_grown (j := 3) (u := .slice (some ⟨g2, 0, none⟩) (s.defs.length + 1) cap2) hg.cx (by decide : (1 : Nat) ≠ 3) hcol hsz hbl hat
  have hx2 : w2.heap[bx]? = some (.cells (rrCells src sv dv s.many cv E) 96 (0, 0)) := (hbl bx hbxl (fun e => by have := hcol bx e.symm; rw [hg.cx] at this; cases this)).trans hg.hx
  have hne : g2 ≠ bx := by
    rintro rfl
    rcases hat with h1 | h1
    · have := hcol _ h1; rw [hg.cx] at this; cases this
    · omega
  have c0 : (fun k => k ≠ 1 ∧ k ≠ 3) 0 := ⟨by decide, by decide⟩
  obtain ⟨cs1, h1, h2⟩ := hg.st
  exact ⟨dye col g2 3, sv, .slice (some ⟨g2, 0, none⟩) (s.defs.length + 1) cap2, cv, {
    bb := hg.bb
    cx := (dye_old (Ne.symm hne)).trans hg.cx
    hx := set_cells (j := 3) hx2 _
    st := ⟨cs1, h1.same hS ⟨by decide, by decide⟩, h2.same hS c0 (Nat.le_succ q) _ _ (fun i _ => ⟨by omega, by omega⟩)⟩
    df := ⟨cs ++ [.string d.name, .int .i64 d.pos, v], ⟨by
      rw [List.length_append, List.length_singleton]
      exact own_set hown _ _ _ (fun e => hne (by simpa [Value.ownBlock] using e)), fun g hg' => by
      have : g2 = g := by simpa [Value.ownBlock] using hg'
      rw [← this]; exact dye_new _ _⟩, DRowC.app _ _ _ _ (DRowC.same hS c0 _ _ hrow) ⟨v, [], rfl, hS.parts c0 hp, rfl⟩⟩
    cl := hg.cl.same hS ⟨by decide, by decide⟩
    l1 := Nat.le_succ_of_le hg.l1
    l2 := Nat.le_succ_of_le hg.l2
    l3 := by rw [List.length_append, List.length_singleton]; have := hg.l3; omega
    l4 := Nat.le_succ_of_le hg.l4
    hB := Nat.le_trans hg.hB hS.1
    ol := fun b hb => (dye_old (by have := own_ge hown; omega)).trans (hg.ol b hb) }⟩
/-- What a call on a reader comes to that has met no error before. -/
def RlP (B q bx : Nat) (src : ByteArray) (r : Rs St) (w : World) (e : Ending) (w' : World) : Prop :=
  e = .returned (.tuple #[]) ∧ Below B w w' ∧ ∃ s E, RdN B q bx src s E w' ∧ Lt r s E
theorem frRow_not (f : Fr) (h : f.kind ≠ 6) (na pa ka : Option Addr) (nc pc kc : Nat) : frRow f (.slice na f.names.length nc) (.slice pa f.fst.len pc) (.slice ka f.kids.len kc) = [.int .i64 (f.kind : Nat), .int .u8 (f.kind : Nat), .int .i64 (f.pos : Nat), .string ⟨#[]⟩, .bool f.root, .slice na f.names.length nc, .string ⟨#[]⟩, .slice pa f.fst.len pc, .slice none 0 0, .bool f.els, .slice ka f.kids.len kc, .string (mkB f.name), .int .i64 0, .slice none 0 0] := by
  unfold frRow; simp [h]
theorem frRow_def (f : Fr) (h : f.kind = 6) (na pa ka : Option Addr) (nc pc kc : Nat) : frRow f (.slice na f.names.length nc) (.slice pa f.fst.len pc) (.slice ka f.kids.len kc) = [.int .i64 6, .int .u8 0, .int .i64 0, .string ⟨#[]⟩, .bool f.root, .slice na f.names.length nc, .string ⟨#[]⟩, .slice pa f.fst.len pc, .slice none 0 0, .bool f.els, .slice ka f.kids.len kc, .string (mkB f.name), .int .i64 (f.pos : Nat), .slice none 0 0] := by
  unfold frRow; simp [h]
set_option maxRecDepth 100000 in
theorem endM_none (B q bx at_ : Nat) (src : ByteArray) (s : St) (col : Nat → Nat) (sv dv cv : Value) (w : World) (hg : RdR B q bx src s (0, 0) col sv dv cv w) (hr : s.rest = []) :
    Calls Tryz.prog 88 #[.pointer (some ⟨bx, 0, none⟩), .int .i64 (at_ : Nat)] w (RlP B q bx src (s.endA at_) w) := by
  have FC := Lib.hid (failR_calls B q bx 192 at_ src s (0, 0) col sv dv cv w hg)
  obtain ⟨g, c, cs, vn0, vk0, kv, rfl, hc1, hc2, -⟩ := hg.top
  have c1 := hg.cells.2.1
  have HE : Hid (s.endA at_ = .err 192 at_) := by unfold Hid St.endA; rw [hr]
  rw [hr] at c1 hc1
  replace c1 : w.cell? ⟨bx, 1, none⟩ = some (.slice (some ⟨g, 0, none⟩) 1 c) := c1
  clear hg hr
  go_enter Tryz.func88, Tryz.ntmps88
  go_wp2_with fail
  refine FC.out.mono ?_
  rintro e w1 ⟨rfl, hb1, hs1, hg1⟩
  have HB1 := Lib.hid hb1
  have HG1 := Lib.hid hg1
  clear hb1 hs1 hg1
  go_wp2_with fail
  go_end0
  rw [HE.out]
  exact ⟨rfl, HB1.out, s, (192, at_), ⟨_, _, _, _, HG1.out⟩, by decide, rfl⟩
end Go.Proofs.YtdgcdjpjnhlihaaGreatDoor
set_option linter.unusedVariables false
set_option linter.unusedSimpArgs false
namespace Go.Proofs.YtdgcdjpjnhlihaaGreatDoor
open Go.RowKit Go.Shelf

set_option maxRecDepth 100000 in
set_option maxHeartbeats 8000000 in
theorem endM_if (B q bx at_ : Nat) (hq : q ≤ 16777216) (src : ByteArray) (f f2 : Fr) (r : List Fr) (defs : List Df) (many : Nat) (calls : List (By × Nat)) (hk6 : f.kind ≠ 6) (col : Nat → Nat) (sv dv cv : Value) (w : World) (hg : RdR B q bx src ⟨f, f2 :: r, defs, many, calls⟩ (0, 0) col sv dv cv w) :
    Calls Tryz.prog 88 #[.pointer (some ⟨bx, 0, none⟩), .int .i64 (at_ : Nat)] w (RlP B (q + 1) bx src (St.endA at_ ⟨f, f2 :: r, defs, many, calls⟩) w) := by
  have HE : Hid (St.endA at_ ⟨f, f2 :: r, defs, many, calls⟩ = .ok ((⟨f2, r, defs, many, calls⟩ : St).put (hdWay f.kind f.pos f.root f.names) (if f.els then f.fst else f.kids) (if f.els then f.kids else .nil))) := if_neg hk6
  have hk6i : ((f.kind : Int) == 6) = false := beq_eq_false_iff_ne.2 (by omega)
  obtain ⟨g, c, cs, vn, vk, kv, rfl, hc1, hc2, hcg, hgB, hgl, hown, hcl, hkl, hfn, hfk, hK, hStk, hF, hgz⟩ := hg.top
  obtain ⟨ka, kc, rfl⟩ := hK.slice
  obtain ⟨na, nc, rfl, hn1⟩ := (show ∃ a n, vn = .slice a f.names.length n ∧ True by obtain ⟨a, n, h, -⟩ := hfn; exact ⟨a, n, by rw [h, List.length_map], trivial⟩)
  obtain ⟨pa, pc, rfl, hp1⟩ := (show ∃ a n, vk = .slice a f.fst.len n ∧ True by obtain ⟨a, n, h, -⟩ := hfk; exact ⟨a, n, h, trivial⟩)
  have c1 : w.cell? ⟨bx, 1, none⟩ = some (.slice (some ⟨g, 0, none⟩) (r.length + 1 + 1) c) := hg.cells.2.1
  have hcc : r.length + 1 + 1 ≤ c := hc1
  have hcc0 : r.length + 1 ≤ c := by omega
  have hccI : ((r.length : Int) + 1) ≤ (c : Int) := by omega
  replace hF : ∀ j u, (frRow f (.slice na f.names.length nc) (.slice pa f.fst.len pc) (.slice ka f.kids.len kc))[j]? = some u → w.cell? ⟨g, (r.length + 1) * 14 + j, none⟩ = some u := hF
  rw [frRow_not f hk6] at hF
  have f0 : w.cell? ⟨g, (r.length + 1) * 14, none⟩ = some (.int .i64 (f.kind : Nat)) := hF 0 _ rfl
  have f1 : w.cell? ⟨g, (r.length + 1) * 14 + 1, none⟩ = some (.int .u8 (f.kind : Nat)) := hF 1 _ rfl
  have f2 : w.cell? ⟨g, (r.length + 1) * 14 + 2, none⟩ = some (.int .i64 (f.pos : Nat)) := hF 2 _ rfl
  have f3 : w.cell? ⟨g, (r.length + 1) * 14 + 3, none⟩ = some (.string ⟨#[]⟩) := hF 3 _ rfl
  have f4 : w.cell? ⟨g, (r.length + 1) * 14 + 4, none⟩ = some (.bool f.root) := hF 4 _ rfl
  have f5 : w.cell? ⟨g, (r.length + 1) * 14 + 5, none⟩ = some (.slice na f.names.length nc) := hF 5 _ rfl
  have f6 : w.cell? ⟨g, (r.length + 1) * 14 + 6, none⟩ = some (.string ⟨#[]⟩) := hF 6 _ rfl
  have f7 : w.cell? ⟨g, (r.length + 1) * 14 + 7, none⟩ = some (.slice pa f.fst.len pc) := hF 7 _ rfl
  have f8 : w.cell? ⟨g, (r.length + 1) * 14 + 8, none⟩ = some (.slice none 0 0) := hF 8 _ rfl
  have f9 : w.cell? ⟨g, (r.length + 1) * 14 + 9, none⟩ = some (.bool f.els) := hF 9 _ rfl
  have f10 : w.cell? ⟨g, (r.length + 1) * 14 + 10, none⟩ = some (.slice ka f.kids.len kc) := hF 10 _ rfl
  have f11 : w.cell? ⟨g, (r.length + 1) * 14 + 11, none⟩ = some (.string (mkB f.name)) := hF 11 _ rfl
  have f12 : w.cell? ⟨g, (r.length + 1) * 14 + 12, none⟩ = some (.int .i64 0) := hF 12 _ rfl
  have f13 : w.cell? ⟨g, (r.length + 1) * 14 + 13, none⟩ = some (.slice none 0 0) := hF 13 _ rfl
  have hl2 : r.length + 1 ≤ q := hg.l2
  have t1 : ((r.length : Int) + 1 == 0) = false := by rw [beq_eq_false_iff_ne]; omega
  have wn : IntKind.i64.wrap ((r.length : Int) + 1 + 1 - 1) = (r.length : Int) + 1 := by rw [IntWalk.i64_in _ (by omega)]; omega
  have wn2 : IntKind.i64.wrap ((r.length : Int) + 1 + 1 + -1) = (r.length : Int) + 1 := by rw [IntWalk.i64_in _ (by omega)]; omega
  have wl : ((r.length : Int) + 1) < (r.length : Int) + 1 + 1 := by omega
  have wl0 : (0 : Int) ≤ (r.length : Int) + 1 := by omega
  have hz1 : (w.setCell ⟨bx, 1, none⟩ (.slice (some ⟨g, 0, none⟩) (r.length + 1) c)).heap.size = w.heap.size := by simp [World.setCell]
  obtain ⟨hgW, hnW, hpW, hkW, -⟩ := RdR.closed hg hfn hfk hK
  have SA := same_dyed (col := fade col (.slice ka f.kids.len kc)) (w.setCell ⟨bx, 1, none⟩ (.slice (some ⟨g, 0, none⟩) (r.length + 1) c)) (.cells #[.int .i64 (f.kind : Nat), .int .u8 (f.kind : Nat), .int .i64 (f.pos : Nat), .string ⟨#[]⟩, .bool f.root, .slice na f.names.length nc, .string ⟨#[]⟩, .slice pa f.fst.len pc, .slice none 0 0, .bool f.els, .slice ka f.kids.len kc, .string (mkB f.name), .int .i64 0, .slice none 0 0] 93) 5
  have hgC := hgW.same SA (fun _ _ _ => trivial) (Nat.le_refl q)
  have hnC := SA.strs trivial hnW
  have hpC := SA.parts trivial hpW
  have hkC := SA.parts trivial hkW
  have h5 : dye (fade col (.slice ka f.kids.len kc)) (w.setCell ⟨bx, 1, none⟩ (.slice (some ⟨g, 0, none⟩) (r.length + 1) c)).heap.size 5 w.heap.size = 5 := by rw [hz1]; exact dye_new _ _
  have HFB1 : Hid (((w.setCell ⟨bx, 1, none⟩ (.slice (some ⟨g, 0, none⟩) (r.length + 1) c)).alloc (.cells #[.int .i64 (f.kind : Nat), .int .u8 (f.kind : Nat), .int .i64 (f.pos : Nat), .string ⟨#[]⟩, .bool f.root, .slice na f.names.length nc, .string ⟨#[]⟩, .slice pa f.fst.len pc, .slice none 0 0, .bool f.els, .slice ka f.kids.len kc, .string (mkB f.name), .int .i64 0, .slice none 0 0] 93)).heap[w.heap.size]? = some (.cells #[.int .i64 (f.kind : Nat), .int .u8 (f.kind : Nat), .int .i64 (f.pos : Nat), .string ⟨#[]⟩, .bool f.root, .slice na f.names.length nc, .string ⟨#[]⟩, .slice pa f.fst.len pc, .slice none 0 0, .bool f.els, .slice ka f.kids.len kc, .string (mkB f.name), .int .i64 0, .slice none 0 0] 93 (0, 0))) := by have := heap_alloc_new (w.setCell ⟨bx, 1, none⟩ (.slice (some ⟨g, 0, none⟩) (r.length + 1) c)) (.cells #[.int .i64 (f.kind : Nat), .int .u8 (f.kind : Nat), .int .i64 (f.pos : Nat), .string ⟨#[]⟩, .bool f.root, .slice na f.names.length nc, .string ⟨#[]⟩, .slice pa f.fst.len pc, .slice none 0 0, .bool f.els, .slice ka f.kids.len kc, .string (mkB f.name), .int .i64 0, .slice none 0 0] 93); rwa [hz1] at this
  have hbxl := lt_of_block hg.hx
  have hB0 := hg.hB
  have hbb := hg.bb
  have HBA : Hid (Below B w ((w.setCell ⟨bx, 1, none⟩ (.slice (some ⟨g, 0, none⟩) (r.length + 1) c)).alloc (.cells #[.int .i64 (f.kind : Nat), .int .u8 (f.kind : Nat), .int .i64 (f.pos : Nat), .string ⟨#[]⟩, .bool f.root, .slice na f.names.length nc, .string ⟨#[]⟩, .slice pa f.fst.len pc, .slice none 0 0, .bool f.els, .slice ka f.kids.len kc, .string (mkB f.name), .int .i64 0, .slice none 0 0] 93))) := ((Below.refl B w).setCell (p := ⟨bx, 1, none⟩) hbb _).alloc (by rw [hz1]; exact hB0) _
  have HZ1 : Hid (w.heap.size < ((w.setCell ⟨bx, 1, none⟩ (.slice (some ⟨g, 0, none⟩) (r.length + 1) c)).alloc (.cells #[.int .i64 (f.kind : Nat), .int .u8 (f.kind : Nat), .int .i64 (f.pos : Nat), .string ⟨#[]⟩, .bool f.root, .slice na f.names.length nc, .string ⟨#[]⟩, .slice pa f.fst.len pc, .slice none 0 0, .bool f.els, .slice ka f.kids.len kc, .string (mkB f.name), .int .i64 0, .slice none 0 0] 93)).heap.size) := by unfold Hid; rw [World.size_alloc, hz1]; omega
  have c1a : ∀ o, (w.alloc o).cell? ⟨bx, 1, none⟩ = some (.slice (some ⟨g, 0, none⟩) (r.length + 1 + 1) c) := fun o => (World.cell?_alloc_old w _ _ (Nat.ne_of_lt hbxl)).trans c1
  have hzz : ∀ o, (w.alloc o).frozen? ⟨bx, 1, none⟩ = false := fun o => frozen_cells ((Below.heap_alloc w o _ hbxl).trans hg.hx) 1
  generalize dye (fade col (.slice ka f.kids.len kc)) _ 5 = col1 at *
  clear hg hgW hnW hpW hkW SA hfn hfk hK hStk hown hF hz1
  go_enter Tryz.func88, Tryz.ntmps88
  go_upto_region 5 with (fail)
  generalize hW1 : World.alloc (World.setCell w _ _) _ = W1 at *
  clear hW1 c1a hzz
  clear f0
  clear f1
  clear f2
  clear f3
  clear f4
  clear f5
  clear f6
  clear f7
  clear f8
  clear f9
  clear f10
  clear f11
  clear f12
  clear f13
  have pp := cell_of_heap' HFB1.out
  have p0 : W1.cell? ⟨w.heap.size, 0, none⟩ = some (.int .i64 (f.kind : Nat)) := pp 0
  have p1 : W1.cell? ⟨w.heap.size, 1, none⟩ = some (.int .u8 (f.kind : Nat)) := pp 1
  have p2 : W1.cell? ⟨w.heap.size, 2, none⟩ = some (.int .i64 (f.pos : Nat)) := pp 2
  have p3 : W1.cell? ⟨w.heap.size, 3, none⟩ = some (.string ⟨#[]⟩) := pp 3
  have p4 : W1.cell? ⟨w.heap.size, 4, none⟩ = some (.bool f.root) := pp 4
  have p5 : W1.cell? ⟨w.heap.size, 5, none⟩ = some (.slice na f.names.length nc) := pp 5
  have p6 : W1.cell? ⟨w.heap.size, 6, none⟩ = some (.string ⟨#[]⟩) := pp 6
  have p7 : W1.cell? ⟨w.heap.size, 7, none⟩ = some (.slice pa f.fst.len pc) := pp 7
  have p8 : W1.cell? ⟨w.heap.size, 8, none⟩ = some (.slice none 0 0) := pp 8
  have p9 : W1.cell? ⟨w.heap.size, 9, none⟩ = some (.bool f.els) := pp 9
  have p10 : W1.cell? ⟨w.heap.size, 10, none⟩ = some (.slice ka f.kids.len kc) := pp 10
  have p11 : W1.cell? ⟨w.heap.size, 11, none⟩ = some (.string (mkB f.name)) := pp 11
  have p12 : W1.cell? ⟨w.heap.size, 12, none⟩ = some (.int .i64 0) := pp 12
  have p13 : W1.cell? ⟨w.heap.size, 13, none⟩ = some (.slice none 0 0) := pp 13
  have pz := frozen_cells HFB1.out
  clear pp
  cases he : f.els with
  | false =>
    rw [he] at p9 HE
    have hgD := hgC.same (same_set col1 W1 w.heap.size 7 5 (.slice ka f.kids.len kc) h5) (fun c _ h => h) (Nat.le_refl q)
    have SD := same_set col1 W1 w.heap.size 7 5 (.slice ka f.kids.len kc) h5
    have HAD : Hid (Calls Tryz.prog 44 #[.pointer (some ⟨bx, 0, none⟩), .agg #[.int .u8 (f.kind : Nat), .int .i64 (f.pos : Nat), .string ⟨#[]⟩, .bool f.root, .slice na f.names.length nc, .string ⟨#[]⟩, .slice ka f.kids.len kc, .slice none 0 0]] (W1.setCell ⟨w.heap.size, 7, none⟩ (.slice ka f.kids.len kc)) _) := addM_calls B q bx hq src ⟨f2, r, defs, many, calls⟩ (0, 0) (hdWay f.kind f.pos f.root f.names) f.kids .nil _ _ _ _ (.slice na f.names.length nc) (.slice ka f.kids.len kc) (.slice none 0 0) _ hgD (SD.strs (by decide) hnC) (SD.parts (by decide) hkC) (Parts.nil _ _)
    have HBD : Hid (Below B w (W1.setCell ⟨w.heap.size, 7, none⟩ (.slice ka f.kids.len kc))) := HBA.out.setCell (p := ⟨w.heap.size, 7, none⟩) hB0 _
    clear hgC hgD SD hnC hpC hkC he
    go_wp2_with (go_at_call 44; refine HAD.out.mono ?_; rintro e w3 ⟨rfl, hb3, hg3⟩)
    go_end0
    rw [HE.out]
    exact ⟨rfl, HBD.out.trans hb3, _, _, hg3, rfl, rfl⟩
  | true =>
    rw [he] at p9 HE
    have hgD := hgC.same (same_set col1 W1 w.heap.size 8 5 (.slice ka f.kids.len kc) h5) (fun c _ h => h) (Nat.le_refl q)
    have SD := same_set col1 W1 w.heap.size 8 5 (.slice ka f.kids.len kc) h5
    have HAD : Hid (Calls Tryz.prog 44 #[.pointer (some ⟨bx, 0, none⟩), .agg #[.int .u8 (f.kind : Nat), .int .i64 (f.pos : Nat), .string ⟨#[]⟩, .bool f.root, .slice na f.names.length nc, .string ⟨#[]⟩, .slice pa f.fst.len pc, .slice ka f.kids.len kc]] (W1.setCell ⟨w.heap.size, 8, none⟩ (.slice ka f.kids.len kc)) _) := addM_calls B q bx hq src ⟨f2, r, defs, many, calls⟩ (0, 0) (hdWay f.kind f.pos f.root f.names) f.fst f.kids _ _ _ _ (.slice na f.names.length nc) (.slice pa f.fst.len pc) (.slice ka f.kids.len kc) _ hgD (SD.strs (by decide) hnC) (SD.parts (by decide) hpC) (SD.parts (by decide) hkC)
    have HBD : Hid (Below B w (W1.setCell ⟨w.heap.size, 8, none⟩ (.slice ka f.kids.len kc))) := HBA.out.setCell (p := ⟨w.heap.size, 8, none⟩) hB0 _
    clear hgC hgD SD hnC hpC hkC he
    go_wp2_with (go_at_call 44; refine HAD.out.mono ?_; rintro e w3 ⟨rfl, hb3, hg3⟩)
    go_end0
    rw [HE.out]
    exact ⟨rfl, HBD.out.trans hb3, _, _, hg3, rfl, rfl⟩
end Go.Proofs.YtdgcdjpjnhlihaaGreatDoor
set_option linter.unusedVariables false
set_option linter.unusedSimpArgs false
namespace Go.Proofs.YtdgcdjpjnhlihaaGreatDoor
open Go.RowKit Go.Shelf

set_option maxRecDepth 100000 in
set_option maxHeartbeats 8000000 in
theorem endM_def (B q bx at_ : Nat) (hq : q ≤ 16777216) (src : ByteArray) (f f2 : Fr) (r : List Fr) (defs : List Df) (many : Nat) (calls : List (By × Nat)) (hk6 : f.kind = 6) (col : Nat → Nat) (sv dv cv : Value) (w : World) (hg : RdR B q bx src ⟨f, f2 :: r, defs, many, calls⟩ (0, 0) col sv dv cv w) :
    Calls Tryz.prog 88 #[.pointer (some ⟨bx, 0, none⟩), .int .i64 (at_ : Nat)] w (RlP B (q + 1) bx src (St.endA at_ ⟨f, f2 :: r, defs, many, calls⟩) w) := by
  have HE : Hid (St.endA at_ ⟨f, f2 :: r, defs, many, calls⟩ = .ok ⟨f2, r, defs ++ [⟨mkB f.name, f.pos, f.kids⟩], many, calls⟩) := if_pos hk6
  obtain ⟨g, c, cs, vn, vk, kv, rfl, hc1, hc2, hcg, hgB, hgl, hown, hcl, hkl, hfn, hfk, hK, hStk, hF, hgz⟩ := hg.top
  obtain ⟨ka, kc, rfl⟩ := hK.slice
  obtain ⟨na, nc, rfl, hn1⟩ := (show ∃ a n, vn = .slice a f.names.length n ∧ True by obtain ⟨a, n, h, -⟩ := hfn; exact ⟨a, n, by rw [h, List.length_map], trivial⟩)
  obtain ⟨pa, pc, rfl, hp1⟩ := (show ∃ a n, vk = .slice a f.fst.len n ∧ True by obtain ⟨a, n, h, -⟩ := hfk; exact ⟨a, n, h, trivial⟩)
  have c1 : w.cell? ⟨bx, 1, none⟩ = some (.slice (some ⟨g, 0, none⟩) (r.length + 1 + 1) c) := hg.cells.2.1
  have hcc : r.length + 1 + 1 ≤ c := hc1
  have hcc0 : r.length + 1 ≤ c := by omega
  have hccI : ((r.length : Int) + 1) ≤ (c : Int) := by omega
  replace hF : ∀ j u, (frRow f (.slice na f.names.length nc) (.slice pa f.fst.len pc) (.slice ka f.kids.len kc))[j]? = some u → w.cell? ⟨g, (r.length + 1) * 14 + j, none⟩ = some u := hF
  rw [frRow_def f hk6] at hF
  have f0 : w.cell? ⟨g, (r.length + 1) * 14, none⟩ = some (.int .i64 6) := hF 0 _ rfl
  have f1 : w.cell? ⟨g, (r.length + 1) * 14 + 1, none⟩ = some (.int .u8 0) := hF 1 _ rfl
  have f2 : w.cell? ⟨g, (r.length + 1) * 14 + 2, none⟩ = some (.int .i64 0) := hF 2 _ rfl
  have f3 : w.cell? ⟨g, (r.length + 1) * 14 + 3, none⟩ = some (.string ⟨#[]⟩) := hF 3 _ rfl
  have f4 : w.cell? ⟨g, (r.length + 1) * 14 + 4, none⟩ = some (.bool f.root) := hF 4 _ rfl
  have f5 : w.cell? ⟨g, (r.length + 1) * 14 + 5, none⟩ = some (.slice na f.names.length nc) := hF 5 _ rfl
  have f6 : w.cell? ⟨g, (r.length + 1) * 14 + 6, none⟩ = some (.string ⟨#[]⟩) := hF 6 _ rfl
  have f7 : w.cell? ⟨g, (r.length + 1) * 14 + 7, none⟩ = some (.slice pa f.fst.len pc) := hF 7 _ rfl
  have f8 : w.cell? ⟨g, (r.length + 1) * 14 + 8, none⟩ = some (.slice none 0 0) := hF 8 _ rfl
  have f9 : w.cell? ⟨g, (r.length + 1) * 14 + 9, none⟩ = some (.bool f.els) := hF 9 _ rfl
  have f10 : w.cell? ⟨g, (r.length + 1) * 14 + 10, none⟩ = some (.slice ka f.kids.len kc) := hF 10 _ rfl
  have f11 : w.cell? ⟨g, (r.length + 1) * 14 + 11, none⟩ = some (.string (mkB f.name)) := hF 11 _ rfl
  have f12 : w.cell? ⟨g, (r.length + 1) * 14 + 12, none⟩ = some (.int .i64 (f.pos : Nat)) := hF 12 _ rfl
  have f13 : w.cell? ⟨g, (r.length + 1) * 14 + 13, none⟩ = some (.slice none 0 0) := hF 13 _ rfl
  have hl2 : r.length + 1 ≤ q := hg.l2
  have t1 : ((r.length : Int) + 1 == 0) = false := by rw [beq_eq_false_iff_ne]; omega
  have wn : IntKind.i64.wrap ((r.length : Int) + 1 + 1 - 1) = (r.length : Int) + 1 := by rw [IntWalk.i64_in _ (by omega)]; omega
  have wn2 : IntKind.i64.wrap ((r.length : Int) + 1 + 1 + -1) = (r.length : Int) + 1 := by rw [IntWalk.i64_in _ (by omega)]; omega
  have wl : ((r.length : Int) + 1) < (r.length : Int) + 1 + 1 := by omega
  have wl0 : (0 : Int) ≤ (r.length : Int) + 1 := by omega
  have hz1 : (w.setCell ⟨bx, 1, none⟩ (.slice (some ⟨g, 0, none⟩) (r.length + 1) c)).heap.size = w.heap.size := by simp [World.setCell]
  obtain ⟨hgW, hnW, hpW, hkW, -⟩ := RdR.closed hg hfn hfk hK
  have SA := same_dyed (col := fade col (.slice ka f.kids.len kc)) (w.setCell ⟨bx, 1, none⟩ (.slice (some ⟨g, 0, none⟩) (r.length + 1) c)) (.cells #[.int .i64 6, .int .u8 0, .int .i64 0, .string ⟨#[]⟩, .bool f.root, .slice na f.names.length nc, .string ⟨#[]⟩, .slice pa f.fst.len pc, .slice none 0 0, .bool f.els, .slice ka f.kids.len kc, .string (mkB f.name), .int .i64 (f.pos : Nat), .slice none 0 0] 93) 5
  have hgC := hgW.same SA (fun _ _ _ => trivial) (Nat.le_refl q)
  have hnC := SA.strs trivial hnW
  have hpC := SA.parts trivial hpW
  have hkC := SA.parts trivial hkW
  have h5 : dye (fade col (.slice ka f.kids.len kc)) (w.setCell ⟨bx, 1, none⟩ (.slice (some ⟨g, 0, none⟩) (r.length + 1) c)).heap.size 5 w.heap.size = 5 := by rw [hz1]; exact dye_new _ _
  have HFB1 : Hid (((w.setCell ⟨bx, 1, none⟩ (.slice (some ⟨g, 0, none⟩) (r.length + 1) c)).alloc (.cells #[.int .i64 6, .int .u8 0, .int .i64 0, .string ⟨#[]⟩, .bool f.root, .slice na f.names.length nc, .string ⟨#[]⟩, .slice pa f.fst.len pc, .slice none 0 0, .bool f.els, .slice ka f.kids.len kc, .string (mkB f.name), .int .i64 (f.pos : Nat), .slice none 0 0] 93)).heap[w.heap.size]? = some (.cells #[.int .i64 6, .int .u8 0, .int .i64 0, .string ⟨#[]⟩, .bool f.root, .slice na f.names.length nc, .string ⟨#[]⟩, .slice pa f.fst.len pc, .slice none 0 0, .bool f.els, .slice ka f.kids.len kc, .string (mkB f.name), .int .i64 (f.pos : Nat), .slice none 0 0] 93 (0, 0))) := by have := heap_alloc_new (w.setCell ⟨bx, 1, none⟩ (.slice (some ⟨g, 0, none⟩) (r.length + 1) c)) (.cells #[.int .i64 6, .int .u8 0, .int .i64 0, .string ⟨#[]⟩, .bool f.root, .slice na f.names.length nc, .string ⟨#[]⟩, .slice pa f.fst.len pc, .slice none 0 0, .bool f.els, .slice ka f.kids.len kc, .string (mkB f.name), .int .i64 (f.pos : Nat), .slice none 0 0] 93); rwa [hz1] at this
  have hbxl := lt_of_block hg.hx
  have hB0 := hg.hB
  have hbb := hg.bb
  have HBA : Hid (Below B w ((w.setCell ⟨bx, 1, none⟩ (.slice (some ⟨g, 0, none⟩) (r.length + 1) c)).alloc (.cells #[.int .i64 6, .int .u8 0, .int .i64 0, .string ⟨#[]⟩, .bool f.root, .slice na f.names.length nc, .string ⟨#[]⟩, .slice pa f.fst.len pc, .slice none 0 0, .bool f.els, .slice ka f.kids.len kc, .string (mkB f.name), .int .i64 (f.pos : Nat), .slice none 0 0] 93))) := ((Below.refl B w).setCell (p := ⟨bx, 1, none⟩) hbb _).alloc (by rw [hz1]; exact hB0) _
  have HZ1 : Hid (w.heap.size < ((w.setCell ⟨bx, 1, none⟩ (.slice (some ⟨g, 0, none⟩) (r.length + 1) c)).alloc (.cells #[.int .i64 6, .int .u8 0, .int .i64 0, .string ⟨#[]⟩, .bool f.root, .slice na f.names.length nc, .string ⟨#[]⟩, .slice pa f.fst.len pc, .slice none 0 0, .bool f.els, .slice ka f.kids.len kc, .string (mkB f.name), .int .i64 (f.pos : Nat), .slice none 0 0] 93)).heap.size) := by unfold Hid; rw [World.size_alloc, hz1]; omega
  have c1a : ∀ o, (w.alloc o).cell? ⟨bx, 1, none⟩ = some (.slice (some ⟨g, 0, none⟩) (r.length + 1 + 1) c) := fun o => (World.cell?_alloc_old w _ _ (Nat.ne_of_lt hbxl)).trans c1
  have hzz : ∀ o, (w.alloc o).frozen? ⟨bx, 1, none⟩ = false := fun o => frozen_cells ((Below.heap_alloc w o _ hbxl).trans hg.hx) 1
  generalize dye (fade col (.slice ka f.kids.len kc)) _ 5 = col1 at *
  clear hg hgW hnW hpW hkW SA hfn hfk hK hStk hown hF hz1
  go_enter Tryz.func88, Tryz.ntmps88
  go_upto_region 5 with (fail)
  generalize hW1 : World.alloc (World.setCell w _ _) _ = W1 at *
  clear hW1 c1a hzz
  clear f0
  clear f1
  clear f2
  clear f3
  clear f4
  clear f5
  clear f6
  clear f7
  clear f8
  clear f9
  clear f10
  clear f11
  clear f12
  clear f13
  have pp := cell_of_heap' HFB1.out
  have p0 : W1.cell? ⟨w.heap.size, 0, none⟩ = some (.int .i64 6) := pp 0
  have p1 : W1.cell? ⟨w.heap.size, 1, none⟩ = some (.int .u8 0) := pp 1
  have p2 : W1.cell? ⟨w.heap.size, 2, none⟩ = some (.int .i64 0) := pp 2
  have p3 : W1.cell? ⟨w.heap.size, 3, none⟩ = some (.string ⟨#[]⟩) := pp 3
  have p4 : W1.cell? ⟨w.heap.size, 4, none⟩ = some (.bool f.root) := pp 4
  have p5 : W1.cell? ⟨w.heap.size, 5, none⟩ = some (.slice na f.names.length nc) := pp 5
  have p6 : W1.cell? ⟨w.heap.size, 6, none⟩ = some (.string ⟨#[]⟩) := pp 6
  have p7 : W1.cell? ⟨w.heap.size, 7, none⟩ = some (.slice pa f.fst.len pc) := pp 7
  have p8 : W1.cell? ⟨w.heap.size, 8, none⟩ = some (.slice none 0 0) := pp 8
  have p9 : W1.cell? ⟨w.heap.size, 9, none⟩ = some (.bool f.els) := pp 9
  have p10 : W1.cell? ⟨w.heap.size, 10, none⟩ = some (.slice ka f.kids.len kc) := pp 10
  have p11 : W1.cell? ⟨w.heap.size, 11, none⟩ = some (.string (mkB f.name)) := pp 11
  have p12 : W1.cell? ⟨w.heap.size, 12, none⟩ = some (.int .i64 (f.pos : Nat)) := pp 12
  have p13 : W1.cell? ⟨w.heap.size, 13, none⟩ = some (.slice none 0 0) := pp 13
  have pz := frozen_cells HFB1.out
  clear pp
  have SD := same_set col1 W1 w.heap.size 13 5 (.slice ka f.kids.len kc) h5
  have hgD := hgC.same SD (fun c _ h => h) (Nat.le_refl q)
  have hkD := SD.parts (by decide) hkC
  have HBD : Hid (Below B w (W1.setCell ⟨w.heap.size, 13, none⟩ (.slice ka f.kids.len kc))) := HBA.out.setCell (p := ⟨w.heap.size, 13, none⟩) hB0 _
  have HFD : Hid ((W1.setCell ⟨w.heap.size, 13, none⟩ (.slice ka f.kids.len kc)).heap[w.heap.size]? = _) := set_cells (j := 13) HFB1.out (.slice ka f.kids.len kc)
  clear hgC SD hnC hpC hkC hk6
  go_upto_region 7 with (fail)
  generalize hW2 : World.setCell W1 _ _ = W3 at *
  clear hW2 p0 p1 p2 p3 p4 p5 p6 p7 p8 p9 p10 p11 p12 p13
  have pp := cell_of_heap' HFD.out
  have p11 : W3.cell? ⟨w.heap.size, 11, none⟩ = some (.string (mkB f.name)) := pp 11
  have p12 : W3.cell? ⟨w.heap.size, 12, none⟩ = some (.int .i64 (f.pos : Nat)) := pp 12
  have p13 : W3.cell? ⟨w.heap.size, 13, none⟩ = some (.slice ka f.kids.len kc) := pp 13
  have hfb3 := lt_of_block HFD.out
  clear pp HFD
  obtain ⟨-, -, -, c3, -⟩ := hgD.cells
  have hbx3 := lt_of_block hgD.hx
  obtain ⟨cs2, ⟨hown, hcol⟩, hrow⟩ := hgD.df
  replace hown : W3.ownsRow B 61 3 dv defs.length cs2 := hown
  have hownA : ∀ o, (W3.alloc o).ownsRow B 61 3 dv defs.length cs2 := fun o => World.ownsRow.alloc hown o
  have hnewsA : ∀ j u, ([.string (mkB f.name), .int .i64 (f.pos : Nat), .slice ka f.kids.len kc] : List Value)[j]? = some u → (W3.alloc (.cells #[.string (mkB f.name), .int .i64 (f.pos : Nat), .slice ka f.kids.len kc] 61)).cell? ((⟨W3.heap.size, 0, none⟩ : Addr).add j) = some u := by
    intro j u hj
    have hb := heap_alloc_new W3 (.cells #[.string (mkB f.name), .int .i64 (f.pos : Nat), .slice ka f.kids.len kc] 61)
    have hadd : (⟨W3.heap.size, 0, none⟩ : Addr).add j = ⟨W3.heap.size, j, none⟩ := by unfold Addr.add; split <;> simp_all
    rw [hadd, cell_of_heap' hb]
    simpa using hj
  have hone : ∀ u ∈ ([.string (mkB f.name), .int .i64 (f.pos : Nat), .slice ka f.kids.len kc] : List Value), u.oneCell' = true := by
    intro u hu
    simp only [List.mem_cons, List.not_mem_nil, or_false] at hu
    rcases hu with rfl | rfl | rfl <;> rfl
  obtain ⟨i0, hi, hz0, hz1, hz2⟩ := info_parts infoDef
  have hBw3 : B ≤ W3.heap.size + 1 := by have := hgD.hB; omega
  have hnk : some bx ≠ dv.ownBlock := fun e => by have := hcol bx e.symm; rw [hgD.cx] at this; cases this
  have hd3 : defs.length ≤ q := hgD.l3
  have hLM : defs.length + 1 ≤ maxLen := by unfold maxLen; omega
  have hLB : (defs.length + 1) * 48 ≤ 140737488355328 := by omega
  have c3a : ∀ ob, (W3.alloc ob).cell? ⟨bx, 3, none⟩ = some dv := fun ob => (World.cell?_alloc_old W3 _ _ (Nat.ne_of_lt hbx3)).trans c3
  have pa : ∀ ob j, (W3.alloc ob).cell? ⟨w.heap.size, j, none⟩ = W3.cell? ⟨w.heap.size, j, none⟩ := fun ob j => World.cell?_alloc_old W3 _ _ (Nat.ne_of_lt hfb3)
  have r11 := fun ob => (pa ob 11).trans p11
  have r12 := fun ob => (pa ob 12).trans p12
  have r13 := fun ob => (pa ob 13).trans p13
  clear pa
  go_region_law (refine step_append_lies _ (by rfl) _ _ _ (by rfl) B 61 i0 _ 3 48 Tryz.underlying23 hi hz0 hz1 hz2 (by rfl) (by decide) dv defs.length cs2 (by rfl) (by exact hownA _) ⟨W3.heap.size, 0, none⟩ 1 1 [.string (mkB f.name), .int .i64 (f.pos : Nat), .slice ka f.kids.len kc] (by rfl) (by rfl) (by exact hnewsA) hone (by decide) hLM hLB (by simp; omega) (W3.heap.size + 1) (by simp) ?_; intro g2 cap2 w4 hown2 hgrow2 hat2 hlt2; have hx4 := (hgrow2.block bx (by simp; omega) hnk).trans ((Below.heap_alloc _ _ _ hbx3).trans hgD.hx); have s3 : w4.cell? ⟨bx, 3, none⟩ = some dv := (by rw [cell_of_heap' hx4]; rfl); have z3 := frozen_cells hx4 3)
  all_goals
    have hgr : (W3.alloc (.cells #[.string (mkB f.name), .int .i64 (f.pos : Nat), .slice ka f.kids.len kc] 61)).grownBy w4 dv.ownBlock := ⟨hgrow2.os, hgrow2.tape, hgrow2.output, hgrow2.size, hgrow2.block⟩
    clear hgrow2
    have hsz2 : W3.heap.size ≤ w4.heap.size := by have := hgr.size; simp at this; omega
    have hbl2 : ∀ b, b < W3.heap.size → some b ≠ dv.ownBlock → w4.heap[b]? = W3.heap[b]? := fun b hb hn => (hgr.block b (by simp; omega) hn).trans (Below.heap_alloc _ _ _ hb)
    have hF2 := Lib.hid (hgD.defd (d := ⟨mkB f.name, f.pos, f.kids⟩) hcol hrow hkD hsz2 hbl2 hown2 (hat2.imp id (fun e => by omega)))
    have hB3 := Lib.hid (((HBD.out.alloc hgD.hB (.cells #[.string (mkB f.name), .int .i64 (f.pos : Nat), .slice ka f.kids.len kc] 61)).grown hgr (by simp; omega) (fun k hk => (World.ownsRow.lt hown k hk).1)).setCell (p := ⟨bx, 3, none⟩) hbb (.slice (some ⟨g2, 0, none⟩) (defs.length + 1) cap2))
    clear hgr hx4 s3 z3 hbl2 hown2 hownA hnewsA hone
    go_wp2_with fail
    go_end0
    rw [HE.out]
    exact ⟨rfl, hB3.out, _, _, hF2.out, rfl, rfl⟩
end Go.Proofs.YtdgcdjpjnhlihaaGreatDoor
