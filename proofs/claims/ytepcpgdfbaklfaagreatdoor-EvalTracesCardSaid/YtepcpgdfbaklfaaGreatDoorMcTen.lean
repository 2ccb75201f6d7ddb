/- The contract of the reader's end. The condition: no list is longer than 2 to the 24th. -/
import Derived.Test.YtepcpgdfbaklfaaGreatDoorMcTrd
import Derived.Test.YtepcpgdfbaklfaaGreatDoorTdfC
set_option linter.unusedVariables false
namespace Go.Proofs.YtepcpgdfbaklfaaGreatDoor
open Go.RowKit Go.Shelf
theorem RdG.same' {C : Nat → Prop} {B q q' bx : Nat} {s : St} {col col' : Nat → Nat} {bs : List Nat} {sv dv cv : Value} {w w' : World} (hs : Same C col col' w w') (hC : ∀ c, c ≤ 6 + 2 * s.rest.length → C c) (hq : q ≤ q') (h : RdG B q bx s col bs sv dv cv w) : RdG B q' bx s col' bs sv dv cv w' :=
 ⟨h.bb, (hs.2 bx (lt_of_block h.hx) (by rw [h.cx]; exact hC _ (by omega))).1.trans h.cx, (hs.2 bx (lt_of_block h.hx) (by rw [h.cx]; exact hC _ (by omega))).2.trans h.hx, h.st.same hs (hC _ (by omega)),
  h.fr.same hs (hC _ (by omega)) hq _ _ (fun i hi => by simp only [List.length_cons] at hi; exact ⟨hC _ (by omega), hC _ (by omega)⟩), h.df.same hs (hC _ (by omega)) (hC _ (by omega)), h.cl.same hs (hC _ (by omega)),
  h.l1, h.l2, Nat.le_trans h.l3 hq, Nat.le_trans h.l4 hq, Nat.le_trans h.hB hs.1, fun b hb => (hs.2 b (Nat.lt_of_lt_of_le hb h.hB) (by rw [h.ol b hb]; exact hC _ (by omega))).1.trans (h.ol b hb)⟩
theorem RdM.mono {B q q' bx : Nat} {s : St} {w : World} (h : RdM B q bx s w) (hq : q ≤ q') : RdM B q' bx s w := by
 obtain ⟨col, bs, sv, dv, cv, hg⟩ := h
 exact ⟨col, bs, sv, dv, cv, hg.same (show Same (fun _ => True) col col w w from ⟨Nat.le_refl _, fun _ _ _ => ⟨rfl, rfl⟩⟩) (fun _ => trivial) hq⟩
theorem RsPost.more {B q q' bx : Nat} {w : World} {r : Rs St} {e : Ending} {w' : World} (h : RsPost B q bx w r e w') (hq : q ≤ q') : RsPost B q' bx w r e w' := by
 refine ⟨h.1, ?_⟩
 have h2 := h.2
 cases r with
 | ok s => exact ⟨h2.1, h2.2.mono hq⟩
 | err n p => exact h2
theorem own_shorter {w : World} {B n c g : Nat} {e : TypeId} {xs : List Value} {x : Value} (h : w.ownsRow B e 1 (.slice (some ⟨g, 0, none⟩) (n + 1) c) (n + 1) (xs ++ [x])) : w.ownsRow B e 1 (.slice (some ⟨g, 0, none⟩) n c) n xs := by
 obtain ⟨h1, h2⟩ := h
 simp only [List.length_append, List.length_cons, List.length_nil] at h1
 rcases h2 with ⟨h2, -⟩ | ⟨g', cap, cur, h2, h3, h4, h5, h6, h7, h8⟩
 · cases h2
 · injection h2 with e1 e2 e3
   injection e1 with e1
   injection e1 with e1
   subst e1; subst e3
   refine ⟨by omega, .inr ⟨g, c, cur, rfl, h3, h4, by omega, h6, h7, ?_⟩⟩
   have := congrArg (List.take n) h8
   rw [List.take_take, List.take_append_of_le_length (by omega), List.take_of_length_le (l := xs) (by omega)] at this
   rw [← this, Nat.mul_one]
   congr 1
   omega
theorem RdG.popped {B q bx fb g c : Nat} {f f2 : Fr} {r : List Fr} {defs : List Df} {many : Nat} {calls : List (By × Nat)} {col : Nat → Nat} {bs : List Nat} {dv cv : Value} {w : World}
 (hg : RdG B q bx ⟨f, f2 :: r, defs, many, calls⟩ col (fb :: bs) (.slice (some ⟨g, 0, none⟩) (r.length + 1 + 1) c) dv cv w) :
 RdG B q bx ⟨f2, r, defs, many, calls⟩ col bs (.slice (some ⟨g, 0, none⟩) (r.length + 1) c) dv cv (w.setCell ⟨bx, 0, none⟩ (.slice (some ⟨g, 0, none⟩) (r.length + 1) c)) := by
 have hS := same_set col w bx 0 1 (.slice (some ⟨g, 0, none⟩) (r.length + 1) c) hg.cx
 obtain ⟨fb', bs', he, -, hSt⟩ := hg.fr
 injection he with e1 e2
 subst e1; subst e2
 have hst := hg.st.1
 rw [ptrs_cons] at hst
 have hgc : col g = 2 := hg.st.2 g rfl
 have hl2 := hg.l2
 exact {
  bb := hg.bb
  cx := hg.cx
  hx := set_cells (j := 0) hg.hx _
  st := ⟨own_set (own_shorter hst) _ _ _ (fun e => by
   have e2 : g = bx := by simpa [Value.ownBlock] using e
   have := hg.cx; rw [← e2, hgc] at this; cases this), fun g' hg' => by
   have : g = g' := by simpa [Value.ownBlock] using hg'
   rw [← this]; exact hgc⟩
  fr := hSt.same hS (by decide) (Nat.le_refl q) _ _ (fun i _ => ⟨by omega, by omega⟩)
  df := hg.df.same hS (by decide) (by decide)
  cl := hg.cl.same hS (by decide)
  l1 := hg.l1
  l2 := by have : r.length + 1 ≤ 64 := hl2; show r.length ≤ 64; omega
  l3 := hg.l3
  l4 := hg.l4
  hB := Nat.le_trans hg.hB hS.1
  ol := hg.ol }
def Closed (B q bx fb g c : Nat) (f : Fr) (s : St) (bs : List Nat) (dv cv : Value) (K E : Pt) (W : World) : Prop :=
 ∃ col va vc ka kc ea ec, RdG B q bx s col bs (.slice (some ⟨g, 0, none⟩) (s.rest.length + 1) c) dv cv W ∧ Strs (Ok col W) W (.slice va f.names.length vc) (f.names.map mkB) ∧ Parts (Ok col W) W (.slice ka K.len kc) K ∧ Parts (Ok col W) W (.slice ea E.len ec) E ∧
   (∀ j u, (hdCells (hdWay f.kind f.pos f.root f.names) (.slice va f.names.length vc) (.slice ka K.len kc) (.slice ea E.len ec))[j]? = some u → W.cell? ⟨fb, j, none⟩ = some u) ∧ fb < W.heap.size ∧ col fb = 5 + 2 * (s.rest.length + 1)
theorem closed_of {B q bx fb g c : Nat} {f f2 : Fr} {r : List Fr} {defs : List Df} {many : Nat} {calls : List (By × Nat)} {col : Nat → Nat} {bs : List Nat} {dv cv : Value} {w : World}
 (hg : RdG B q bx ⟨f, f2 :: r, defs, many, calls⟩ col (fb :: bs) (.slice (some ⟨g, 0, none⟩) (r.length + 1 + 1) c) dv cv w) (hk : f.kind ≠ 6) {vn vk kv : Value} (hh : w.heap[fb]? = some (.cells (frCells f vn vk kv) 100 (0, 0))) :
 (f.els = false → Closed B q bx fb g c f ⟨f2, r, defs, many, calls⟩ bs dv cv f.kids .nil ((w.setCell ⟨bx, 0, none⟩ (.slice (some ⟨g, 0, none⟩) (r.length + 1) c)).setCell ⟨fb, 6, none⟩ kv)) ∧
 (f.els = true → Closed B q bx fb g c f ⟨f2, r, defs, many, calls⟩ bs dv cv f.fst f.kids ((w.setCell ⟨bx, 0, none⟩ (.slice (some ⟨g, 0, none⟩) (r.length + 1) c)).setCell ⟨fb, 7, none⟩ kv)) := by
 have hp := hg.popped
 have hS1 := same_set col w bx 0 1 (.slice (some ⟨g, 0, none⟩) (r.length + 1) c) hg.cx
 obtain ⟨fb', bs', he, hF, -⟩ := hg.fr
 injection he with e1 e2
 subst e1; subst e2
 have hF1 : FrM B col (w.setCell ⟨bx, 0, none⟩ (.slice (some ⟨g, 0, none⟩) (r.length + 1) c)) q (r.length + 1) fb f := hF.same hS1 (by decide) (by show 5 + 2 * (r.length + 1) ≠ 1; omega) (by show 6 + 2 * (r.length + 1) ≠ 1; omega) (Nat.le_refl q)
 have hcf : col fb = 5 + 2 * (r.length + 1) := hF1.2.1
 have hne : fb ≠ bx := fun e => by have := hg.cx; rw [← e, hcf] at this; omega
 have hh1 : (w.setCell ⟨bx, 0, none⟩ (.slice (some ⟨g, 0, none⟩) (r.length + 1) c)).heap[fb]? = some (.cells (frCells f vn vk kv) 100 (0, 0)) := (Below.heap_setCell _ _ _ _ hne).trans hh
 clear hS1 hF hh
 obtain ⟨W, hW⟩ : ∃ W, w.setCell ⟨bx, 0, none⟩ (.slice (some ⟨g, 0, none⟩) (r.length + 1) c) = W := ⟨_, rfl⟩
 rw [hW] at hp hF1 hh1 ⊢
 clear hW hg
 obtain ⟨hfb, -, hkl, vn', vk', kv', hfh, hfn, hfk, hK⟩ := hF1
 have e1 : frCells f vn vk kv = frCells f vn' vk' kv' := by
  have := hh1.symm.trans hfh
  injection this with this
  injection this
 have en : vn = vn' := congrArg (fun c : Array Value => c[4]!) e1
 have ek : vk = vk' := congrArg (fun c : Array Value => c[6]!) e1
 have ev : kv = kv' := congrArg (fun c : Array Value => c[13]!) e1
 subst en; subst ek; subst ev
 have hcol : ∀ g, kv.ownBlock = some g → col g = 6 + 2 * (r.length + 1) := by
  obtain ⟨cs, ⟨-, h2⟩, -⟩ := hK
  exact h2
 have hS : ∀ j, Same (fun c => c ≠ 5 + 2 * (r.length + 1) ∧ c ≠ 6 + 2 * (r.length + 1)) col (fade col kv) W (W.setCell ⟨fb, j, none⟩ kv) := fun j =>
  ⟨by simp [World.setCell], fun b _ hc => ⟨fade_old hcol hc.2, Below.heap_setCell _ _ _ _ (fun e => hc.1 (by rw [e]; exact hcf))⟩⟩
 have c0 : (fun c => c ≠ 5 + 2 * (r.length + 1) ∧ c ≠ 6 + 2 * (r.length + 1)) 0 := ⟨by omega, by omega⟩
 have hp2 : ∀ j, RdG B q bx ⟨f2, r, defs, many, calls⟩ (fade col kv) bs (.slice (some ⟨g, 0, none⟩) (r.length + 1) c) dv cv (W.setCell ⟨fb, j, none⟩ kv) := fun j =>
  hp.same' (hS j) (fun c hc => by replace hc : c ≤ 6 + 2 * r.length := hc; exact ⟨by omega, by omega⟩) (Nat.le_refl q)
 have hkf : ∀ j, Parts (Ok (fade col kv) (W.setCell ⟨fb, j, none⟩ kv)) (W.setCell ⟨fb, j, none⟩ kv) kv f.kids := fun j =>
  kids_faded hK (hS j) c0 (fun g hg => Below.heap_setCell _ _ _ _ (fun e => by have e2 : g = fb := e; have := hcol g hg; rw [e2, hcf] at this; omega))
 have hlt := lt_of_block hfh
 have hlt2 : ∀ j, fb < (W.setCell ⟨fb, j, none⟩ kv).heap.size := fun j => by simp [World.setCell]; exact hlt
 have hcf2 : fade col kv fb = 5 + 2 * (r.length + 1) := by rw [fade_old hcol (by omega)]; exact hcf
 have hcells : ∀ j, (W.setCell ⟨fb, j, none⟩ kv).heap[fb]? = some (.cells ((frCells f vn vk kv).setIfInBounds j kv) 100 (0, 0)) := fun j => set_cells (j := j) hfh kv
 have hnm : ∀ j, Strs (Ok (fade col kv) (W.setCell ⟨fb, j, none⟩ kv)) (W.setCell ⟨fb, j, none⟩ kv) vn (f.names.map mkB) := fun j => (hS j).strs c0 hfn
 have hpk : ∀ j, Parts (Ok (fade col kv) (W.setCell ⟨fb, j, none⟩ kv)) (W.setCell ⟨fb, j, none⟩ kv) vk f.fst := fun j => (hS j).parts c0 hfk
 have hvn : ∃ va vc, vn = .slice va f.names.length vc := by obtain ⟨va, vc, h, -⟩ := hfn; exact ⟨va, vc, by rw [h, List.length_map]⟩
 have hvk : ∃ va vc, vk = .slice va f.fst.len vc := by obtain ⟨va, vc, h, -⟩ := hfk; exact ⟨va, vc, h⟩
 obtain ⟨ka, kc, hkv⟩ := hK.slice
 obtain ⟨va, vc, rfl⟩ := hvn
 obtain ⟨fa, fc, rfl⟩ := hvk
 constructor
 · intro he
   refine ⟨fade col kv, va, vc, ka, kc, none, 0, hp2 6, hnm 6, ?_, Parts.nil _ _, ?_, hlt2 6, hcf2⟩
   · rw [← hkv]; exact hkf 6
   · intro j u hj
     rw [cell_of_heap' (hcells 6)]
     simp only [hdCells, hdWay] at hj
     rw [← hkv] at hj
     match j, hj with
     | 0, hj => rw [← hj]; simp [frCells, hk]
     | 1, hj => rw [← hj]; simp [frCells, hk]
     | 2, hj => rw [← hj]; rfl
     | 3, hj => rw [← hj]; rfl
     | 4, hj => rw [← hj]; rfl
     | 5, hj => rw [← hj]; rfl
     | 6, hj => rw [← hj]; rfl
     | 7, hj => rw [← hj]; rfl
     | j + 8, hj => simp at hj
 · intro he
   refine ⟨fade col kv, va, vc, fa, fc, ka, kc, hp2 7, hnm 7, hpk 7, ?_, ?_, hlt2 7, hcf2⟩
   · rw [← hkv]; exact hkf 7
   · intro j u hj
     rw [cell_of_heap' (hcells 7)]
     simp only [hdCells, hdWay] at hj
     rw [← hkv] at hj
     match j, hj with
     | 0, hj => rw [← hj]; simp [frCells, hk]
     | 1, hj => rw [← hj]; simp [frCells, hk]
     | 2, hj => rw [← hj]; rfl
     | 3, hj => rw [← hj]; rfl
     | 4, hj => rw [← hj]; rfl
     | 5, hj => rw [← hj]; rfl
     | 6, hj => rw [← hj]; rfl
     | 7, hj => rw [← hj]; rfl
     | j + 8, hj => simp at hj
def callA (x y : By) (at_ : Nat) (s : St) : Rs St := match wayB y with
 | none => .err 190 at_
 | some p => if nameOk x = false then .err 190 at_ else St.add (hdCall at_ x p.1 p.2) at_ { s with calls := s.calls ++ [(x, at_)] }
theorem callA_act3 (x y : By) (at_ : Nat) (s : St) : act3 kCall x y at_ s = callA x y at_ s := by
 unfold act3 callA
 rw [if_pos rfl]
 cases wayB y with
 | none => rfl
 | some p =>
   dsimp only
   split
   · rfl
   · unfold St.add St.count
     split <;> rfl
theorem RdG.called {B q bx : Nat} {s : St} {col : Nat → Nat} {bs : List Nat} {sv dv cv : Value} {w w2 : World} (hg : RdG B q bx s col bs sv dv cv w) {cs : List Value} {x : By} {at_ : Nat} {root : Bool} {va : Option Addr} {vl vc : Nat}
 (hcol : ∀ g, cv.ownBlock = some g → col g = 4) (hrow : CRowC s.calls cs)
 (hsz : w.heap.size ≤ w2.heap.size) (hbl : ∀ b, b < w.heap.size → some b ≠ cv.ownBlock → w2.heap[b]? = w.heap[b]?) {g2 cap2 : Nat}
 (hown : w2.ownsRow B 56 8 (.slice (some ⟨g2, 0, none⟩) (s.calls.length + 1) cap2) (s.calls.length + 1) (cs ++ [.int .u8 5, .int .i64 (at_ : Nat), .string ⟨#[]⟩, .bool root, .slice va vl vc, .string (mkB x), .slice none 0 0, .slice none 0 0])) (hat : cv.ownBlock = some g2 ∨ w.heap.size ≤ g2) :
 RdG B (q + 1) bx { s with calls := s.calls ++ [(x, at_)] } (dye col g2 4) bs sv dv (.slice (some ⟨g2, 0, none⟩) (s.calls.length + 1) cap2) (w2.setCell ⟨bx, 4, none⟩ (.slice (some ⟨g2, 0, none⟩) (s.calls.length + 1) cap2)) ∧
 Same (fun k => k ≠ 1 ∧ k ≠ 4) col (dye col g2 4) w (w2.setCell ⟨bx, 4, none⟩ (.slice (some ⟨g2, 0, none⟩) (s.calls.length + 1) cap2)) := by
 have hbxl := lt_of_block hg.hx
 have hS := same_grown (j := 4) (u := .slice (some ⟨g2, 0, none⟩) (s.calls.length + 1) cap2) hg.cx (by decide : (1 : Nat) ≠ 4) hcol hsz hbl hat
 have hx2 : w2.heap[bx]? = some (.cells (rdCells sv dv s.many cv) 103 (0, 0)) := (hbl bx hbxl (fun e => by have := hcol bx e.symm; rw [hg.cx] at this; cases this)).trans hg.hx
 have hne : g2 ≠ bx := by
  rintro rfl
  rcases hat with h1 | h1
  · have := hcol _ h1; rw [hg.cx] at this; cases this
  · omega
 have c0 : (fun k => k ≠ 1 ∧ k ≠ 4) 0 := ⟨by decide, by decide⟩
 refine ⟨{
  bb := hg.bb
  cx := (dye_old (Ne.symm hne)).trans hg.cx
  hx := set_cells (j := 4) hx2 _
  st := hg.st.same hS ⟨by decide, by decide⟩
  fr := hg.fr.same hS c0 (Nat.le_succ q) _ _ (fun i _ => ⟨⟨by omega, by omega⟩, ⟨by omega, by omega⟩⟩)
  df := hg.df.same hS c0 ⟨by decide, by decide⟩
  cl := ⟨cs ++ [.int .u8 5, .int .i64 (at_ : Nat), .string ⟨#[]⟩, .bool root, .slice va vl vc, .string (mkB x), .slice none 0 0, .slice none 0 0], ⟨by
   rw [List.length_append, List.length_singleton]
   exact own_set hown _ _ _ (fun e => hne (by simpa [Value.ownBlock] using e)), fun g hg' => by
   have : g2 = g := by simpa [Value.ownBlock] using hg'
   rw [← this]; exact dye_new _ _⟩, CRowC.app _ _ _ _ hrow ⟨root, va, vl, vc, [], rfl, rfl⟩⟩
  l1 := hg.l1
  l2 := hg.l2
  l3 := Nat.le_succ_of_le hg.l3
  l4 := by rw [List.length_append, List.length_singleton]; have := hg.l4; omega
  hB := Nat.le_trans hg.hB hS.1
  ol := fun b hb => (dye_old (by have := own_ge hown; omega)).trans (hg.ol b hb) }, hS⟩
theorem own_cells {w : World} {B n sz g c : Nat} {e : TypeId} {xs : List Value} (h : w.ownsRow B e sz (.slice (some ⟨g, 0, none⟩) n c) n xs) : (∀ j u, xs[j]? = some u → w.cell? ⟨g, j, none⟩ = some u) ∧ ∀ j, w.frozen? ⟨g, j, none⟩ = false := by
 rcases h.2 with ⟨h, -⟩ | ⟨g', cap, cur, h1, hB, hg, h3, h4, h5, ht⟩
 · cases h
 · injection h1 with e1; injection e1 with e1; injection e1 with e1
   subst e1
   refine ⟨fun j u hj => ?_, frozen_cells hg⟩
   rw [cell_of_heap' hg, ← Array.getElem?_toList]
   rw [← ht, List.getElem?_take] at hj
   split at hj
   · exact hj
   · cases hj
theorem own_setAt {w : World} {B n sz g c : Nat} {e : TypeId} {xs : List Value} (h : w.ownsRow B e sz (.slice (some ⟨g, 0, none⟩) n c) n xs) (j : Nat) (v : Value) : (w.setCell ⟨g, j, none⟩ v).ownsRow B e sz (.slice (some ⟨g, 0, none⟩) n c) n (xs.set j v) := by
 refine ⟨by rw [List.length_set]; exact h.1, ?_⟩
 rcases h.2 with ⟨h, -⟩ | ⟨g', cap, cur, h1, hB, hg, h3, h4, h5, ht⟩
 · cases h
 · injection h1 with e1 e2 e3; injection e1 with e1; injection e1 with e1
   subst e1; subst e3
   refine .inr ⟨g, c, cur.setIfInBounds j v, rfl, hB, set_cells hg v, h3, h4, by rw [Array.size_setIfInBounds]; exact h5, ?_⟩
   rw [Array.toList_setIfInBounds, List.take_set, ht]
theorem set_last (cs : List Value) (k : Nat) (hk : cs.length = k) (a0 a1 a2 a3 a4 a5 a6 a7 b0 b1 b2 b3 b4 b5 b6 b7 : Value) :
 (((((((((cs ++ [a0, a1, a2, a3, a4, a5, a6, a7]).set k b0).set (k + 1) b1).set (k + 2) b2).set (k + 3) b3).set (k + 4) b4).set (k + 5) b5).set (k + 6) b6).set (k + 7) b7) = cs ++ [b0, b1, b2, b3, b4, b5, b6, b7] := by
 subst hk
 induction cs with
 | nil => rfl
 | cons x cs ih =>
   simp only [List.cons_append, List.length_cons]
   have e : ∀ (l : List Value) (m j : Nat) (v : Value), (x :: l).set (m + 1 + j) v = x :: l.set (m + j) v := fun l m j v => by rw [show m + 1 + j = (m + j) + 1 by omega]; rfl
   have e0 : ∀ (l : List Value) (m : Nat) (v : Value), (x :: l).set (m + 1) v = x :: l.set m v := fun l m v => rfl
   rw [e0, e, e, e, e, e, e, e, ih]
theorem set_swap (w : World) (a b i j : Nat) (x y : Value) (h : a ≠ b) : (w.setCell ⟨a, i, none⟩ x).setCell ⟨b, j, none⟩ y = (w.setCell ⟨b, j, none⟩ y).setCell ⟨a, i, none⟩ x := by
 unfold World.setCell
 congr 1
 ext k
 · simp
 · simp only [Array.getElem_modify]
   split <;> split <;> simp_all
theorem set9_swap (w : World) (a b i k : Nat) (v x0 x1 x2 x3 x4 x5 x6 x7 : Value) (h : a ≠ b) :
 (((((((((w.setCell ⟨a, i, none⟩ v).setCell ⟨b, k, none⟩ x0).setCell ⟨b, k + 1, none⟩ x1).setCell ⟨b, k + 2, none⟩ x2).setCell ⟨b, k + 3, none⟩ x3).setCell ⟨b, k + 4, none⟩ x4).setCell ⟨b, k + 5, none⟩ x5).setCell ⟨b, k + 6, none⟩ x6).setCell ⟨b, k + 7, none⟩ x7) =
 (((((((((w.setCell ⟨b, k, none⟩ x0).setCell ⟨b, k + 1, none⟩ x1).setCell ⟨b, k + 2, none⟩ x2).setCell ⟨b, k + 3, none⟩ x3).setCell ⟨b, k + 4, none⟩ x4).setCell ⟨b, k + 5, none⟩ x5).setCell ⟨b, k + 6, none⟩ x6).setCell ⟨b, k + 7, none⟩ x7).setCell ⟨a, i, none⟩ v) := by
 rw [set_swap w a b _ _ _ _ h, set_swap _ a b _ _ _ _ h, set_swap _ a b _ _ _ _ h, set_swap _ a b _ _ _ _ h, set_swap _ a b _ _ _ _ h, set_swap _ a b _ _ _ _ h, set_swap _ a b _ _ _ _ h, set_swap _ a b _ _ _ _ h]
theorem own_last8 {w : World} {B n g c : Nat} {e : TypeId} {cs : List Value} {a0 a1 a2 a3 a4 a5 a6 a7 : Value} (hl : cs.length = n * 8) (h : w.ownsRow B e 8 (.slice (some ⟨g, 0, none⟩) (n + 1) c) (n + 1) (cs ++ [a0, a1, a2, a3, a4, a5, a6, a7])) (x0 x1 x2 x3 x4 x5 x6 x7 : Value) :
 ((((((((w.setCell ⟨g, n * 8, none⟩ x0).setCell ⟨g, n * 8 + 1, none⟩ x1).setCell ⟨g, n * 8 + 2, none⟩ x2).setCell ⟨g, n * 8 + 3, none⟩ x3).setCell ⟨g, n * 8 + 4, none⟩ x4).setCell ⟨g, n * 8 + 5, none⟩ x5).setCell ⟨g, n * 8 + 6, none⟩ x6).setCell ⟨g, n * 8 + 7, none⟩ x7).ownsRow B e 8 (.slice (some ⟨g, 0, none⟩) (n + 1) c) (n + 1) (cs ++ [x0, x1, x2, x3, x4, x5, x6, x7]) ∧
 (∀ b, b ≠ g → ((((((((w.setCell ⟨g, n * 8, none⟩ x0).setCell ⟨g, n * 8 + 1, none⟩ x1).setCell ⟨g, n * 8 + 2, none⟩ x2).setCell ⟨g, n * 8 + 3, none⟩ x3).setCell ⟨g, n * 8 + 4, none⟩ x4).setCell ⟨g, n * 8 + 5, none⟩ x5).setCell ⟨g, n * 8 + 6, none⟩ x6).setCell ⟨g, n * 8 + 7, none⟩ x7).heap[b]? = w.heap[b]?) ∧
 ((((((((w.setCell ⟨g, n * 8, none⟩ x0).setCell ⟨g, n * 8 + 1, none⟩ x1).setCell ⟨g, n * 8 + 2, none⟩ x2).setCell ⟨g, n * 8 + 3, none⟩ x3).setCell ⟨g, n * 8 + 4, none⟩ x4).setCell ⟨g, n * 8 + 5, none⟩ x5).setCell ⟨g, n * 8 + 6, none⟩ x6).setCell ⟨g, n * 8 + 7, none⟩ x7).heap.size = w.heap.size := by
 refine ⟨?_, fun b hb => ?_, by simp [World.setCell]⟩
 · have := own_setAt (own_setAt (own_setAt (own_setAt (own_setAt (own_setAt (own_setAt (own_setAt h (n * 8) x0) (n * 8 + 1) x1) (n * 8 + 2) x2) (n * 8 + 3) x3) (n * 8 + 4) x4) (n * 8 + 5) x5) (n * 8 + 6) x6) (n * 8 + 7) x7
   rwa [set_last cs (n * 8) hl] at this
 · rw [Below.heap_setCell _ _ _ _ hb, Below.heap_setCell _ _ _ _ hb, Below.heap_setCell _ _ _ _ hb, Below.heap_setCell _ _ _ _ hb, Below.heap_setCell _ _ _ _ hb, Below.heap_setCell _ _ _ _ hb, Below.heap_setCell _ _ _ _ hb, Below.heap_setCell _ _ _ _ hb]
theorem OwnC.slice {B : Nat} {col : Nat → Nat} {w : World} {c : Nat} {T : TypeId} {sz : Nat} {v : Value} {n : Nat} {cs : List Value} (h : OwnC B col w c T sz v n cs) : ∃ a k, v = .slice a n k := by
 obtain ⟨⟨-, h2⟩, -⟩ := h
 rcases h2 with ⟨h, h0⟩ | ⟨g, cap, cur, h, -⟩
 · exact ⟨none, 0, by rw [h, h0]⟩
 · exact ⟨_, cap, h⟩
set_option maxRecDepth 100000 in
set_option maxHeartbeats 4000000 in
theorem call_calls (B q bx : Nat) (hq : q ≤ 16777215) (w0 x y : By) (hx : x.length ≤ 16777216) (hy : y.length ≤ 16777216) (at_ : Nat) (hat : at_ ≤ 16777216) (s : St) (col : Nat → Nat) (bs : List Nat) (sv dv cv wv : Value) (w : World) (hg : RdG B q bx s col bs sv dv cv w)
 (hsh : Sh w) (hws : Strs (Ok col w) w wv [mkB w0, mkB x, mkB y]) :
 Calls Tryz.prog 83 #[.pointer (some ⟨bx, 0, none⟩), wv, .int .i64 (at_ : Nat)] w (RsPost B (q + 2) bx w (callA x y at_ s)) := by
 obtain ⟨a, c, rfl, h1, h2, h3⟩ := hws
 obtain ⟨b, o, rfl, hok, hcs⟩ := h3 (by simp)
 have d1 : w.cell? ⟨b, o + 1, none⟩ = some (.string (mkB x)) := hcs 1 _ rfl
 have d2 : w.cell? ⟨b, o + 2, none⟩ = some (.string (mkB y)) := hcs 2 _ rfl
 have MU := Lib.hid (must_calls (mkB y) (by rw [mkB_size]; exact hy) at_ hat w hsh)
 rw [bl_mk] at MU
 obtain ⟨X, hX⟩ : ∃ X, mkB x = X := ⟨_, rfl⟩
 obtain ⟨Y, hY⟩ : ∃ Y, mkB y = Y := ⟨_, rfl⟩
 have NM := Lib.hid (fun w => name_calls (mkB x) (by rw [mkB_size]; omega) w)
 rw [bl_mk, hX] at NM
 rw [hX] at d1
 rw [hY] at d2 MU
 have HXX := Lib.hid hX
 have HG := Lib.hid hg
 have HBw : Hid (B ≤ w.heap.size) := hg.hB
 have h21 : (1 : Int) < (3 : Nat) := by omega
 have h22 : (2 : Int) < (3 : Nat) := by omega
 have hbl := lt_of_cell d1
 clear hg hX hY hcs h3 h1
 unfold callA
 cases hw : wayB y with
 | none =>
   rw [hw] at MU
   clear hw
   go_enter Tryz.func83, Tryz.ntmps83
   go_wp2_with fail
   refine MU.out.mono ?_
   rintro e w1 ⟨hb1, rfl⟩
   have HB1 := Lib.hid (hb1.mono HBw.out)
   clear hb1
   go_wp2_with fail
   exact ⟨rfl, HB1.out, rfl⟩
 | some p =>
   rw [hw] at MU
   clear hw
   dsimp only
   cases hn : nameOk x with
   | false =>
     rw [hn] at NM
     rw [if_pos rfl]
     clear hn
     go_enter Tryz.func83, Tryz.ntmps83
     go_wp2_with fail
     refine MU.out.mono ?_
     rintro e w1 ⟨hb1, v, rfl, hst⟩
     obtain ⟨va, vc, rfl, -⟩ := hst
     have ed := (hb1.cell (p := ⟨b, o + 1, none⟩) hbl).trans d1
     have HB1 := Lib.hid (hb1.mono HBw.out)
     have HS1 := Lib.hid hb1.size
     have hbl1 : b < w1.heap.size := Nat.lt_of_lt_of_le hbl hb1.size
     clear hb1
     go_wp2_with fail
     refine (NM.out _).mono ?_
     rintro e w2 ⟨rfl, hb2⟩
     have HB2 := Lib.hid (HB1.out.trans (((Below.refl w1.heap.size w1).alloc (Nat.le_refl _) _).mono (Nat.le_trans HBw.out HS1.out) |>.trans (hb2.mono (by have := HS1.out; have := HBw.out; simp; omega))))
     clear hb2
     go_wp2_with fail
     exact ⟨rfl, HB2.out, rfl⟩
   | true =>
     rw [hn] at NM
     rw [if_neg (by decide)]
     clear hn
     go_enter Tryz.func83, Tryz.ntmps83
     go_wp2_with fail
     refine MU.out.mono ?_
     rintro e w1 ⟨hb1, v, rfl, hst⟩
     obtain ⟨L, hL⟩ : ∃ L, p.2.map mkB = L := ⟨_, rfl⟩
     rw [hL] at hst
     have HL := Lib.hid hL
     clear hL
     have HST2 := Lib.hid hst
     obtain ⟨va, vc, rfl, -⟩ := hst
     have ed := (hb1.cell (p := ⟨b, o + 1, none⟩) hbl).trans d1
     have HB1 := Lib.hid hb1
     have hbl1 : b < w1.heap.size := Nat.lt_of_lt_of_le hbl hb1.size
     clear hb1
     go_wp2_with fail
     refine (NM.out _).mono ?_
     rintro e w2 ⟨rfl, hb2⟩
     have hP2 := (hb2.block w1.heap.size (by simp)).trans (heap_alloc_new w1 _)
     have hw2 : w1.heap.size < w2.heap.size := by have := hb2.size; simp at this; omega
     have hb12 : Below w1.heap.size w1 w2 := ((Below.refl w1.heap.size w1).alloc (Nat.le_refl _) _).trans (hb2.mono (by simp))
     have hb02 : Below w.heap.size w w2 := HB1.out.trans (hb12.mono HB1.out.size)
     have hn2 : Strs (Ok (freshC col w.heap.size) w2) w2 (.slice va L.length vc) L := (HST2.out.kept (fun b hb => hb12.block b hb.2.1)).mono (fun b hb => fresh_ok ⟨hb.1, Nat.lt_of_lt_of_le hb.2.1 hb12.size, hb.2.2.same (hb12.block b hb.2.1)⟩)
     have hg2 := HG.out.same (same_fresh (B := B) hb02) (fun _ => trivial) (Nat.le_refl q)
     have q0 : w2.cell? ⟨w1.heap.size, 0, none⟩ = some (.bool p.1) := by rw [cell_of_heap' hP2]; rfl
     have q1 : w2.cell? ⟨w1.heap.size, 1, none⟩ = some (.slice va L.length vc) := by rw [cell_of_heap' hP2]; rfl
     have ed2 := (hb12.cell (p := ⟨b, o + 1, none⟩) hbl1).trans ed
     have HB2 := Lib.hid hb02
     have HB2w : Hid (B ≤ w2.heap.size) := hg2.hB
     clear hP2 hb2 hb12 hb02 HST2
     obtain ⟨ca, cc, rfl⟩ := (show ∃ a k, cv = .slice a s.calls.length k by obtain ⟨cs, h, -⟩ := hg2.cl; exact h.slice)
     have HG2 := Lib.hid hg2
     have HN2 := Lib.hid hn2
     have hbx2 := lt_of_block hg2.hx
     have hb2l : b < w2.heap.size := lt_of_cell ed2
     have eda : ∀ ob, (w2.alloc ob).cell? ⟨b, o + 1, none⟩ = some (.string X) := fun ob => (World.cell?_alloc_old w2 _ _ (Nat.ne_of_lt hb2l)).trans ed2
     have q0a : ∀ ob, (w2.alloc ob).cell? ⟨w1.heap.size, 0, none⟩ = some (.bool p.1) := fun ob => (World.cell?_alloc_old w2 _ _ (Nat.ne_of_lt hw2)).trans q0
     have q1a : ∀ ob, (w2.alloc ob).cell? ⟨w1.heap.size, 1, none⟩ = some (.slice va L.length vc) := fun ob => (World.cell?_alloc_old w2 _ _ (Nat.ne_of_lt hw2)).trans q1
     clear hg2 hn2
     go_wp2_with fail
     go_region
     all_goals
      go_wp2_with fail
      clear eda q0a q1a q0 q1 ed2
      have hP3 := heap_alloc_new w2 (.cells #[.int .u8 5, .int .i64 (at_ : Nat), .string ⟨#[]⟩, .bool p.1, .slice va L.length vc, .string X, .slice none 0 0, .slice none 0 0] 56)
      have hS3 : Same (fun _ => True) (freshC col w.heap.size) (freshC col w.heap.size) w2 (w2.alloc (.cells #[.int .u8 5, .int .i64 (at_ : Nat), .string ⟨#[]⟩, .bool p.1, .slice va L.length vc, .string X, .slice none 0 0, .slice none 0 0] 56)) := ⟨by simp, fun b hb _ => ⟨rfl, Below.heap_alloc _ _ _ hb⟩⟩
      have hg3 := HG2.out.same hS3 (fun _ => trivial) (Nat.le_refl q)
      have hn3 := hS3.strs trivial HN2.out
      have HB3 := Lib.hid ((HB2.out.mono HBw.out).alloc HB2w.out (.cells #[.int .u8 5, .int .i64 (at_ : Nat), .string ⟨#[]⟩, .bool p.1, .slice va L.length vc, .string X, .slice none 0 0, .slice none 0 0] 56))
      have hs3 : (w2.alloc (.cells #[.int .u8 5, .int .i64 (at_ : Nat), .string ⟨#[]⟩, .bool p.1, .slice va L.length vc, .string X, .slice none 0 0, .slice none 0 0] 56)).heap.size = w2.heap.size + 1 := by simp
      generalize hW : w2.alloc _ = W3
      rw [hW] at hP3 hg3 hn3 HB3 hs3
      have HS3 := Lib.hid hs3
      have HB3w : Hid (B ≤ W3.heap.size) := hg3.hB
      have hp3 : w2.heap.size < W3.heap.size := by omega
      clear hW hS3 hs3
      obtain ⟨-, -, -, -, c4, fz⟩ := hg3.cells
      have hbx3 := lt_of_block hg3.hx
      have c4a : ∀ ob, (W3.alloc ob).cell? ⟨bx, 4, none⟩ = some (.slice ca s.calls.length cc) := fun ob => (World.cell?_alloc_old W3 _ _ (Nat.ne_of_lt hbx3)).trans c4
      have pp := cell_of_heap' hP3
      have p0 : W3.cell? ⟨w2.heap.size, 0, none⟩ = some (.int .u8 5) := pp 0
      have p1 : W3.cell? ⟨w2.heap.size, 1, none⟩ = some (.int .i64 (at_ : Nat)) := pp 1
      have p2 : W3.cell? ⟨w2.heap.size, 2, none⟩ = some (.string ⟨#[]⟩) := pp 2
      have p3 : W3.cell? ⟨w2.heap.size, 3, none⟩ = some (.bool p.1) := pp 3
      have p4 : W3.cell? ⟨w2.heap.size, 4, none⟩ = some (.slice va L.length vc) := pp 4
      have p5 : W3.cell? ⟨w2.heap.size, 5, none⟩ = some (.string X) := pp 5
      have p6 : W3.cell? ⟨w2.heap.size, 6, none⟩ = some (.slice none 0 0) := pp 6
      have p7 : W3.cell? ⟨w2.heap.size, 7, none⟩ = some (.slice none 0 0) := pp 7
      clear pp
      have pa : ∀ ob j, (W3.alloc ob).cell? ⟨w2.heap.size, j, none⟩ = W3.cell? ⟨w2.heap.size, j, none⟩ := fun ob j => World.cell?_alloc_old W3 _ _ (Nat.ne_of_lt hp3)
      have r0 := fun ob => (pa ob 0).trans p0
      have r1 := fun ob => (pa ob 1).trans p1
      have r2 := fun ob => (pa ob 2).trans p2
      have r3 := fun ob => (pa ob 3).trans p3
      have r4 := fun ob => (pa ob 4).trans p4
      have r5 := fun ob => (pa ob 5).trans p5
      have r6 := fun ob => (pa ob 6).trans p6
      have r7 := fun ob => (pa ob 7).trans p7
      clear pa
      obtain ⟨cs, ⟨hown, hcol⟩, hrow⟩ := hg3.cl
      have hownA : ∀ o, (W3.alloc o).ownsRow B 56 8 (.slice ca s.calls.length cc) s.calls.length cs := fun o => World.ownsRow.alloc hown o
      have hcsl : cs.length = s.calls.length * 8 := hown.1
      have hnewsA : ∀ j u, ([.int .u8 0, .int .i64 0, .string ⟨#[]⟩, .bool false, .slice none 0 0, .string ⟨#[]⟩, .slice none 0 0, .slice none 0 0] : List Value)[j]? = some u → (W3.alloc (.cells #[.int .u8 0, .int .i64 0, .string ⟨#[]⟩, .bool false, .slice none 0 0, .string ⟨#[]⟩, .slice none 0 0, .slice none 0 0] 56)).cell? ((⟨W3.heap.size, 0, none⟩ : Addr).add j) = some u := by
       intro j u hj
       have hb := heap_alloc_new W3 (.cells #[.int .u8 0, .int .i64 0, .string ⟨#[]⟩, .bool false, .slice none 0 0, .string ⟨#[]⟩, .slice none 0 0, .slice none 0 0] 56)
       have hadd : (⟨W3.heap.size, 0, none⟩ : Addr).add j = ⟨W3.heap.size, j, none⟩ := by unfold Addr.add; split <;> simp_all
       rw [hadd, cell_of_heap' hb]
       simpa using hj
      have hone : ∀ u ∈ ([.int .u8 0, .int .i64 0, .string ⟨#[]⟩, .bool false, .slice none 0 0, .string ⟨#[]⟩, .slice none 0 0, .slice none 0 0] : List Value), u.oneCell' = true := by
       intro u hu
       simp only [List.mem_cons, List.not_mem_nil, or_false] at hu
       rcases hu with rfl | rfl | rfl | rfl | rfl | rfl | rfl | rfl <;> rfl
      obtain ⟨i0, hi, hz0, hz1, hz2⟩ := info_parts infoPart
      have hBw3 : B ≤ W3.heap.size + 1 := by have := hg3.hB; omega
      have hnk : some bx ≠ (Value.slice ca s.calls.length cc).ownBlock := fun e => by have := hcol bx e.symm; rw [hg3.cx] at this; cases this
      have hcl4 : s.calls.length ≤ q := hg3.l4
      have hLM : s.calls.length + 1 ≤ maxLen := by unfold maxLen; omega
      have hLB : (s.calls.length + 1) * 128 ≤ 140737488355328 := by omega
      have hll : (s.calls.length : Int) < ((s.calls.length + 1 : Nat) : Int) := by omega
      have hll2 : (s.calls.length : Int) < (s.calls.length : Int) + 1 := by omega
      have kc : ∀ (w3 : World) (g2 cap2 : Nat), w3.ownsRow B 56 8 (.slice (some ⟨g2, 0, none⟩) (s.calls.length + 1) cap2) (s.calls.length + 1) (cs ++ [.int .u8 0, .int .i64 0, .string ⟨#[]⟩, .bool false, .slice none 0 0, .string ⟨#[]⟩, .slice none 0 0, .slice none 0 0]) → ∀ j, w3.cell? ⟨g2, s.calls.length * 8 + j, none⟩ = ([.int .u8 0, .int .i64 0, .string ⟨#[]⟩, .bool false, .slice none 0 0, .string ⟨#[]⟩, .slice none 0 0, .slice none 0 0] : List Value)[j]? ∨ 8 ≤ j := by
       intro w3 g2 cap2 h j
       rcases Nat.lt_or_ge j 8 with hj | hj
       · left
         obtain ⟨u, hu⟩ : ∃ u, ([.int .u8 0, .int .i64 0, .string ⟨#[]⟩, .bool false, .slice none 0 0, .string ⟨#[]⟩, .slice none 0 0, .slice none 0 0] : List Value)[j]? = some u := ⟨_, List.getElem?_eq_getElem (by simpa using hj)⟩
         rw [hu]
         exact (own_cells h).1 _ _ (by rw [List.getElem?_append_right (by omega), hcsl]; simpa using hu)
       · exact .inr hj
      have KC := Lib.hid kc
      clear kc
      go_region_law (refine step_append_lies _ (by rfl) _ _ _ (by rfl) B 56 i0 _ 8 128 Tryz.underlying22 hi hz0 hz1 hz2 (by rfl) (by decide) (.slice ca s.calls.length cc) s.calls.length cs (by rfl) (by exact hownA _) ⟨W3.heap.size, 0, none⟩ 1 1 [.int .u8 0, .int .i64 0, .string ⟨#[]⟩, .bool false, .slice none 0 0, .string ⟨#[]⟩, .slice none 0 0, .slice none 0 0] (by rfl) (by rfl) (by exact hnewsA) hone (by decide) hLM hLB (by simp; omega) (W3.heap.size + 1) (by simp) ?_; intro g2 cap2 w3 hown2 hgrow2 hat2 hlt2; have hng : ¬ bx = g2 := (fun e => by rcases hat2 with h | h; exact hnk (by rw [e]; exact h.symm); omega); have hng2 : ¬ g2 = bx := (fun e => hng e.symm); have hx2 := (hgrow2.block bx (by simp; omega) hnk).trans ((Below.heap_alloc _ _ _ hbx3).trans hg3.hx); have s4 : w3.cell? ⟨bx, 4, none⟩ = some (.slice ca s.calls.length cc) := (by rw [cell_of_heap' hx2]; rfl); have z4 := frozen_cells hx2 4; have kz := (own_cells hown2).2; have k0 : w3.cell? ⟨g2, s.calls.length * 8, none⟩ = some (.int .u8 0) := (KC.out w3 g2 cap2 hown2 0).resolve_right (by decide); have k1 : w3.cell? ⟨g2, s.calls.length * 8 + 1, none⟩ = some (.int .i64 0) := (KC.out w3 g2 cap2 hown2 1).resolve_right (by decide); have k2 : w3.cell? ⟨g2, s.calls.length * 8 + 2, none⟩ = some (.string ⟨#[]⟩) := (KC.out w3 g2 cap2 hown2 2).resolve_right (by decide); have k3 : w3.cell? ⟨g2, s.calls.length * 8 + 3, none⟩ = some (.bool false) := (KC.out w3 g2 cap2 hown2 3).resolve_right (by decide); have k4 : w3.cell? ⟨g2, s.calls.length * 8 + 4, none⟩ = some (.slice none 0 0) := (KC.out w3 g2 cap2 hown2 4).resolve_right (by decide); have k5 : w3.cell? ⟨g2, s.calls.length * 8 + 5, none⟩ = some (.string ⟨#[]⟩) := (KC.out w3 g2 cap2 hown2 5).resolve_right (by decide); have k6 : w3.cell? ⟨g2, s.calls.length * 8 + 6, none⟩ = some (.slice none 0 0) := (KC.out w3 g2 cap2 hown2 6).resolve_right (by decide); have k7 : w3.cell? ⟨g2, s.calls.length * 8 + 7, none⟩ = some (.slice none 0 0) := (KC.out w3 g2 cap2 hown2 7).resolve_right (by decide))
      all_goals
       clear s4 z4 k0 k1 k2 k3 k4 k5 k6 k7 kz hx2
       try rw [set9_swap _ _ _ _ _ _ _ _ _ _ _ _ _ _ hng]
       obtain ⟨hown4, hbl4, hsz4⟩ := own_last8 hcsl hown2 (.int .u8 5) (.int .i64 (at_ : Nat)) (.string ⟨#[]⟩) (.bool p.1) (.slice va L.length vc) (.string X) (.slice none 0 0) (.slice none 0 0)
       have hgr : (W3.alloc (.cells #[.int .u8 0, .int .i64 0, .string ⟨#[]⟩, .bool false, .slice none 0 0, .string ⟨#[]⟩, .slice none 0 0, .slice none 0 0] 56)).grownBy w3 (Value.slice ca s.calls.length cc).ownBlock := ⟨hgrow2.os, hgrow2.tape, hgrow2.output, hgrow2.size, hgrow2.block⟩
       have hgB : B ≤ g2 := (World.ownsRow.lt hown2 g2 rfl).1
       have HB4 := Lib.hid ((HB3.out.alloc HB3w.out _).grown hgr (by simp; omega) (fun k hk => (World.ownsRow.lt hown k hk).1))
       have HB5 := Lib.hid ((((((((HB4.out.setCell (p := ⟨g2, s.calls.length * 8, none⟩) hgB (.int .u8 5)).setCell (p := ⟨g2, s.calls.length * 8 + 1, none⟩) hgB (.int .i64 (at_ : Nat))).setCell (p := ⟨g2, s.calls.length * 8 + 2, none⟩) hgB (.string ⟨#[]⟩)).setCell (p := ⟨g2, s.calls.length * 8 + 3, none⟩) hgB (.bool p.1)).setCell (p := ⟨g2, s.calls.length * 8 + 4, none⟩) hgB (.slice va L.length vc)).setCell (p := ⟨g2, s.calls.length * 8 + 5, none⟩) hgB (.string X)).setCell (p := ⟨g2, s.calls.length * 8 + 6, none⟩) hgB (.slice none 0 0)).setCell (p := ⟨g2, s.calls.length * 8 + 7, none⟩) hgB (.slice none 0 0))
       have hbl5 : ∀ b, b < W3.heap.size → some b ≠ (Value.slice ca s.calls.length cc).ownBlock → w3.heap[b]? = W3.heap[b]? := fun b hb hn => (hgr.block b (by simp; omega) hn).trans (Below.heap_alloc _ _ _ hb)
       have hsz5 : W3.heap.size ≤ w3.heap.size := by have := hgr.size; simp at this; omega
       generalize hW4 : World.setCell (World.setCell (World.setCell (World.setCell (World.setCell (World.setCell (World.setCell (World.setCell w3 _ _) _ _) _ _) _ _) _ _) _ _) _ _) _ _ = W4 at *
       have hcl := hg3.called (w2 := W4) (x := x) (at_ := at_) (root := p.1) (va := va) (vl := L.length) (vc := vc) hcol hrow (by rw [hsz4]; exact hsz5)
        (fun b hb hn => (hbl4 b (fun e => by
         rcases hat2 with h | h
         · exact hn (by rw [e]; exact h.symm)
         · omega)).trans (hbl5 b hb hn)) (by rw [HXX.out]; exact hown4) (hat2.imp id (fun e => by omega))
       obtain ⟨hg6, hS6⟩ := hcl
       have HB6 := Lib.hid (HB5.out.setCell (p := ⟨bx, 4, none⟩) hg3.bb (.slice (some ⟨g2, 0, none⟩) (s.calls.length + 1) cap2))
       generalize hW6 : World.setCell W4 _ _ = W6 at *
       have hc0 : freshC col w.heap.size w2.heap.size = 0 := if_neg (by have := HB2.out.size; omega)
       have hP6 := (hS6.2 w2.heap.size hp3 (by rw [hc0]; exact ⟨by decide, by decide⟩)).2.trans hP3
       have hn6 := hS6.strs ⟨by decide, by decide⟩ hn3
       have AD : Hid (Calls Tryz.prog 46 #[.pointer (some ⟨bx, 0, none⟩), .agg #[.int .u8 5, .int .i64 (at_ : Nat), .string ⟨#[]⟩, .bool p.1, .slice va L.length vc, .string X, .slice none 0 0, .slice none 0 0]] W6 (RsPost B (q + 2) bx W6 (St.add (hdCall at_ x p.1 p.2) at_ { s with calls := s.calls ++ [(x, at_)] }))) := by
        have := add_calls B (q + 1) bx (by omega) _ (hdCall at_ x p.1 p.2) at_ hat rfl _ _ _ _ _ (.slice va L.length vc) W6 hg6 (by show Strs _ _ _ (p.2.map mkB); rw [HL.out]; exact hn6)
        have he : (hdCall at_ x p.1 p.2).name = X := HXX.out
        rw [he] at this
        exact this
       have pp := cell_of_heap' hP6
       have p0 : W6.cell? ⟨w2.heap.size, 0, none⟩ = some (.int .u8 5) := pp 0
       have p1 : W6.cell? ⟨w2.heap.size, 1, none⟩ = some (.int .i64 (at_ : Nat)) := pp 1
       have p2 : W6.cell? ⟨w2.heap.size, 2, none⟩ = some (.string ⟨#[]⟩) := pp 2
       have p3 : W6.cell? ⟨w2.heap.size, 3, none⟩ = some (.bool p.1) := pp 3
       have p4 : W6.cell? ⟨w2.heap.size, 4, none⟩ = some (.slice va L.length vc) := pp 4
       have p5 : W6.cell? ⟨w2.heap.size, 5, none⟩ = some (.string X) := pp 5
       have p6 : W6.cell? ⟨w2.heap.size, 6, none⟩ = some (.slice none 0 0) := pp 6
       have p7 : W6.cell? ⟨w2.heap.size, 7, none⟩ = some (.slice none 0 0) := pp 7
       clear pp
       clear hown4 hbl4 hsz4 HB4 HB5 hbl5 hsz5 hW4 hW6 hS6 hown2 hgrow2 hgr hat2 hlt2 hng hng2 hP6 hn6 hg6 hP3 hg3 hn3 hownA hown hcol hrow hnewsA c4a r0 r1 r2 r3 r4 r5 r6 r7 hcsl hone hc0
       go_wp2_with fail
       refine AD.out.mono ?_
       rintro e w7 ⟨hb7, h7⟩
       have HB7 := Lib.hid (HB6.out.trans hb7)
       have HE : Hid (St.add (hdCall at_ x p.1 p.2) at_ { s with calls := s.calls ++ [(x, at_)] } = St.add (hdCall at_ x p.1 p.2) at_ { s with calls := s.calls ++ [(x, at_)] }) := rfl
       cases hR : St.add (hdCall at_ x p.1 p.2) at_ { s with calls := s.calls ++ [(x, at_)] } with
       | ok s3 =>
         rw [hR] at h7
         obtain ⟨rfl, h8⟩ := h7
         have H8 := Lib.hid h8
         have HC := Lib.hid hR
         clear h8 hb7 hR AD p0 p1 p2 p3 p4 p5 p6 p7
         go_wp2_with fail
         go_end0
         rw [HC.out]
         exact ⟨HB7.out, rfl, H8.out⟩
       | err ee ii =>
         rw [hR] at h7
         have h8 : e = .panicked [{ v := .iface 84 (.agg #[.int .i64 (ee : Nat), .int .i64 (ii : Nat)]), recovered := false }] := h7
         subst h8
         have HC := Lib.hid hR
         clear h7 hb7 hR AD p0 p1 p2 p3 p4 p5 p6 p7
         go_wp2_with fail
         try rw [HC.out]
         exact ⟨rfl, HB7.out, rfl⟩
end Go.Proofs.YtepcpgdfbaklfaaGreatDoor
