/- Slices of parts and of templates that a call makes itself, by append. The condition: at most 2 to the 24th parts. -/
import Derived.Test.YtepcpgdfbaklfaaGreatDoorMcTrd
import Derived.Test.YtepcpgdfbaklfaaGreatDoorMcTs0
import Derived.Laws.AppendOwnNone
set_option linter.unusedVariables false
set_option linter.unusedSimpArgs false
namespace Go.Proofs.YtepcpgdfbaklfaaGreatDoor
open Go.RowKit Go.Shelf
theorem RowC.kept {ok : Nat → Prop} {w w' : World} (hk : Kept ok w w') : ∀ (t : Pt) (cs : List Value), RowC ok w t cs → RowC ok w' t cs := by
 intro t
 induction t with
 | nil => intro cs h; exact h
 | cons h k e r _ _ ih =>
   rintro cs ⟨vn, vk, ve, cs', rfl, h1, h2, h3, h4⟩
   exact ⟨vn, vk, ve, cs', rfl, h1.kept hk, h2.kept hk, h3.kept hk, ih _ h4⟩
theorem RowC.mono {ok ok' : Nat → Prop} {w : World} (hk : ∀ b, ok b → ok' b) : ∀ (t : Pt) (cs : List Value), RowC ok w t cs → RowC ok' w t cs := by
 intro t
 induction t with
 | nil => intro cs h; exact h
 | cons h k e r _ _ ih =>
   rintro cs ⟨vn, vk, ve, cs', rfl, h1, h2, h3, h4⟩
   exact ⟨vn, vk, ve, cs', rfl, h1.mono hk, h2.mono hk, h3.mono hk, ih _ h4⟩
theorem DRowC.kept {ok : Nat → Prop} {w w' : World} (hk : Kept ok w w') : ∀ (t : List Df) (cs : List Value), DRowC ok w t cs → DRowC ok w' t cs := by
 intro t
 induction t with
 | nil => intro cs h; exact h
 | cons d r ih =>
   rintro cs ⟨v, cs', rfl, h1, h4⟩
   exact ⟨v, cs', rfl, h1.kept hk, ih _ h4⟩
theorem DRowC.mono {ok ok' : Nat → Prop} {w : World} (hk : ∀ b, ok b → ok' b) : ∀ (t : List Df) (cs : List Value), DRowC ok w t cs → DRowC ok' w t cs := by
 intro t
 induction t with
 | nil => intro cs h; exact h
 | cons d r ih =>
   rintro cs ⟨v, cs', rfl, h1, h4⟩
   exact ⟨v, cs', rfl, h1.mono hk, ih _ h4⟩
theorem DRowC.len {ok : Nat → Prop} {w : World} : ∀ (l : List Df) (cs : List Value), DRowC ok w l cs → cs.length = l.length * 3 := by
 intro l
 induction l with
 | nil => intro cs h; obtain rfl : cs = [] := h; rfl
 | cons d r ih =>
   rintro cs ⟨v, cs', rfl, h1, h4⟩
   have := ih _ h4
   simp only [List.length_append, List.length_cons, List.length_nil]; omega
theorem DRowC.row {ok : Nat → Prop} {w : World} : ∀ (l : List Df) (cs : List Value) (b o : Nat), DRowC ok w l cs → (∀ j u, cs[j]? = some u → w.cell? ⟨b, o + j, none⟩ = some u) → DRow ok w l b o := by
 intro l
 induction l with
 | nil => intro cs b o _ _; exact trivial
 | cons d r ih =>
   rintro cs b o ⟨v, cs', rfl, h1, h4⟩ hc
   refine ⟨hc 0 _ rfl, hc 1 _ rfl, ⟨v, hc 2 _ rfl, h1⟩, ih cs' b (o + 3) h4 (fun j u hj => ?_)⟩
   have := hc (3 + j) u (by rw [List.getElem?_append_right (by simp)]; simpa using hj)
   rwa [show o + (3 + j) = o + 3 + j by omega] at this
theorem own_kept {w w' : World} {B sz n : Nat} {e : TypeId} {v : Value} {xs : List Value} (h : w.ownsRow B e sz v n xs) (hb : ∀ g, v.ownBlock = some g → w'.heap[g]? = w.heap[g]?) : w'.ownsRow B e sz v n xs := by
 refine ⟨h.1, ?_⟩
 rcases h.2 with h | ⟨g, cap, cur, h1, h2, h3, h4⟩
 · exact .inl h
 · exact .inr ⟨g, cap, cur, h1, h2, (hb g (by rw [h1]; rfl)).trans h3, h4⟩
theorem own_new {w : World} {B sz n : Nat} {e : TypeId} {v : Value} {xs : List Value} (h : w.ownsRow B e sz v n xs) : ∀ g, v.ownBlock = some g → B ≤ g ∧ g < w.heap.size := fun g hg => ⟨(World.ownsRow.lt h g hg).1, (World.ownsRow.lt h g hg).2⟩
def Nw (B : Nat) (w : World) (v : Value) (b : Nat) : Prop := B ≤ b ∧ b < w.heap.size ∧ v.ownBlock ≠ some b
def Nb (B : Nat) (w : World) (b : Nat) : Prop := B ≤ b ∧ b < w.heap.size
def OutM (B : Nat) (w : World) (v : Value) (t : Pt) : Prop := ∃ cs, w.ownsRow B 56 8 v t.len cs ∧ RowC (Nw B w v) w t cs
theorem OutM.nil (B : Nat) (w : World) : OutM B w (.slice none 0 0) .nil := ⟨[], World.ownsRow_nil _ _ _ _, rfl⟩
theorem OutM.below {B : Nat} {w w' : World} {v : Value} {t : Pt} (h : OutM B w v t) (hb : Below w.heap.size w w') : OutM B w' v t := by
 obtain ⟨cs, h1, h2⟩ := h
 refine ⟨cs, own_kept h1 (fun g hg => hb.block g (own_new h1 g hg).2), ?_⟩
 exact (h2.kept (fun b h => hb.block b h.2.1)).mono (fun b h => ⟨h.1, Nat.lt_of_lt_of_le h.2.1 hb.size, h.2.2⟩) _ _
theorem own_elems {w : World} {B sz n : Nat} {e : TypeId} {v : Value} {xs : List Value} (h : w.ownsRow B e sz v n xs) : ∃ a c, v = .slice a n c ∧ n ≤ c ∧ c ≤ maxLen ∧ (xs ≠ [] → ∃ g, a = some ⟨g, 0, none⟩ ∧ B ≤ g ∧ g < w.heap.size ∧ ∀ j u, xs[j]? = some u → w.cell? ⟨g, j, none⟩ = some u) := by
 rcases h with ⟨hl, ⟨rfl, rfl⟩ | ⟨g, cap, cur, rfl, hB, hg, hle, hcap, hsz, ht⟩⟩
 · exact ⟨none, 0, rfl, Nat.le_refl _, by decide, fun hx => by simp at hl; exact absurd hl hx⟩
 · refine ⟨_, _, rfl, hle, hcap, fun _ => ⟨g, rfl, hB, lt_of_block hg, fun j u hj => ?_⟩⟩
   rw [cell_of_heap' hg, ← Array.getElem?_toList]
   rw [← ht, List.getElem?_take] at hj
   split at hj
   · exact hj
   · cases hj
theorem OutM.parts {B : Nat} {w : World} {v : Value} {t : Pt} (h : OutM B w v t) : Parts (Nb B w) w v t := by
 obtain ⟨cs, h1, h2⟩ := h
 obtain ⟨a, c, rfl, h3, h4, h5⟩ := own_elems h1
 refine ⟨a, c, rfl, h3, h4, fun hn => ?_⟩
 have hl := RowC.len _ _ h2
 obtain ⟨g, rfl, hg1, hg2, hc⟩ := h5 (by rintro rfl; cases t with
  | nil => exact hn rfl
  | cons _ _ _ _ => simp [Pt.len] at hl)
 exact ⟨g, 0, rfl, ⟨hg1, hg2⟩, RowC.row t cs g 0 (RowC.mono (fun b h => ⟨h.1, h.2.1⟩) _ _ h2) (fun j u hj => by rw [Nat.zero_add]; exact hc j u hj)⟩
def OutD (B : Nat) (w : World) (v : Value) (l : List Df) : Prop := ∃ cs, w.ownsRow B 70 3 v l.length cs ∧ DRowC (Nw B w v) w l cs
theorem OutD.nil (B : Nat) (w : World) : OutD B w (.slice none 0 0) [] := ⟨[], World.ownsRow_nil _ _ _ _, rfl⟩
theorem OutD.below {B : Nat} {w w' : World} {v : Value} {l : List Df} (h : OutD B w v l) (hb : Below w.heap.size w w') : OutD B w' v l := by
 obtain ⟨cs, h1, h2⟩ := h
 refine ⟨cs, own_kept h1 (fun g hg => hb.block g (own_new h1 g hg).2), ?_⟩
 exact (h2.kept (fun b h => hb.block b h.2.1)).mono (fun b h => ⟨h.1, Nat.lt_of_lt_of_le h.2.1 hb.size, h.2.2⟩) _ _
theorem OutD.defs {B : Nat} {w : World} {v : Value} {l : List Df} (h : OutD B w v l) : Defs (Nb B w) w v l := by
 obtain ⟨cs, h1, h2⟩ := h
 obtain ⟨a, c, rfl, h3, h4, h5⟩ := own_elems h1
 refine ⟨a, c, rfl, h3, h4, fun hn => ?_⟩
 have hl := DRowC.len _ _ h2
 obtain ⟨g, rfl, hg1, hg2, hc⟩ := h5 (by rintro rfl; cases l with
  | nil => exact hn rfl
  | cons _ _ => simp at hl)
 exact ⟨g, 0, rfl, ⟨hg1, hg2⟩, DRowC.row l cs g 0 (DRowC.mono (fun b h => ⟨h.1, h.2.1⟩) _ _ h2) (fun j u hj => by rw [Nat.zero_add]; exact hc j u hj)⟩
theorem nw_step {B : Nat} {w w' : World} {v : Value} {g n cap : Nat} (hg : w.grownBy w' v.ownBlock) (hat : v.ownBlock = some g ∨ g = w.heap.size) :
 Kept (Nw B w v) w w' ∧ ∀ b, Nw B w v b → Nw B w' (.slice (some ⟨g, 0, none⟩) n cap) b := by
 refine ⟨fun b hb => hg.block b hb.2.1 (fun e => hb.2.2 e.symm), fun b hb => ⟨hb.1, Nat.lt_of_lt_of_le hb.2.1 hg.size, ?_⟩⟩
 show some g ≠ some b
 rintro ⟨rfl⟩
 rcases hat with h | h
 · exact hb.2.2 h
 · have := hb.2.1; omega
theorem infoDef' : (Tryz.prog.info? 70).map (fun i => (i.zero, i.size, i.bytes)) = some (some (.agg #[.string ⟨#[]⟩, .int .i64 0, .slice none 0 0]), 3, 48) := by kernel_rfl
theorem cells_add {w : World} {q : Nat} {cs : Array Value} {T : TypeId} {fr : Nat × Nat} (hq : w.heap[q]? = some (.cells cs T fr)) : ∀ j u, cs.toList[j]? = some u → w.cell? ((⟨q, 0, none⟩ : Addr).add j) = some u := fun j u hu => by
 have hadd : (⟨q, 0, none⟩ : Addr).add j = ⟨q, j, none⟩ := by unfold Addr.add; split <;> simp_all
 rw [hadd, cell_of_heap' hq]; simpa using hu
theorem app_part {ops : Array Oper} {rest : List Oper} {o : Oper} {a : Act} {w : World} {Q : Exit → Act → World → Prop} (hgd : o.guard = none) (s x : Operand)
 (ho : o.op = .call { callee := .builtin .append, args := #[s, x], argTypes := #[22, 22] })
 (B : Nat) (v : Value) (t : Pt) (hs : a.eval s = v) (hown : OutM B w v t) (h : Hd) (k e : Pt) (vn vk ve : Value) (q c : Nat) (hx : a.eval x = .slice (some ⟨q, 0, none⟩) 1 c) (T : TypeId) (fr : Nat × Nat)
 (hq : w.heap[q]? = some (.cells (pCells h vn vk ve) T fr)) (hn : Strs (Nw B w v) w vn h.names) (hk : Parts (Nw B w v) w vk k) (he : Parts (Nw B w v) w ve e) (hlen : t.len ≤ 16777216) (hB : B ≤ w.heap.size)
 (H : ∀ v' w', OutM B w' v' (t.app (.one h k e)) → Below B w w' → w.grownBy w' v.ownBlock → (Kept (Nw B w v) w w' ∧ ∀ b, Nw B w v b → Nw B w' v' b) → wpList Tryz.prog ops Q rest (a.put o.dst v') w') : wpList Tryz.prog ops Q (o :: rest) a w := by
 obtain ⟨i0, hi, hz0, hz1, hz2⟩ := info_parts infoPart
 obtain ⟨cs, hown, hrow⟩ := hown
 obtain ⟨an, cn, rfl, n1, n2, n3⟩ := hn
 obtain ⟨ak, ck, rfl, k1, k2, k3⟩ := hk
 obtain ⟨ae, ce, rfl, e1, e2, e3⟩ := he
 refine wpList_append_lies w hgd s x 22 ho B 56 i0 _ 8 128 Tryz.underlying22 hi hz0 hz1 hz2 (by rfl) (by decide) v t.len cs hs hown ⟨q, 0, none⟩ 1 c (hdCells h (.slice an h.names.length cn) (.slice ak k.len ck) (.slice ae e.len ce)) hx (by rfl) (cells_add hq) ?_ (by decide) (by unfold maxLen; omega) (by omega) hB w.heap.size rfl ?_
 · intro u hu
   simp only [hdCells, List.mem_cons, List.not_mem_nil, or_false] at hu
   rcases hu with rfl | rfl | rfl | rfl | rfl | rfl | rfl | rfl <;> rfl
 · intro g cap w' hown' hgrow hat hlt
   obtain ⟨hkp, hmn⟩ := nw_step (B := B) (n := t.len + 1) (cap := cap) hgrow hat
   refine H _ w' ⟨cs ++ hdCells h (.slice an h.names.length cn) (.slice ak k.len ck) (.slice ae e.len ce), ?_, RowC.app _ _ _ _ (RowC.mono hmn _ _ (RowC.kept hkp _ _ hrow)) ⟨.slice an h.names.length cn, .slice ak k.len ck, .slice ae e.len ce, [], by simp [hdCells], ?_, ?_, ?_, rfl⟩⟩ ((Below.refl B w).grown hgrow hB (fun k hk => (World.ownsRow.lt hown k hk).1)) hgrow ⟨hkp, hmn⟩
   · rw [Pt.len_app]; exact hown'
   · exact Strs.mono (Strs.kept ⟨an, cn, rfl, n1, n2, n3⟩ hkp) hmn
   · exact Parts.mono (Parts.kept ⟨ak, ck, rfl, k1, k2, k3⟩ hkp) hmn
   · exact Parts.mono (Parts.kept ⟨ae, ce, rfl, e1, e2, e3⟩ hkp) hmn
theorem app_def {ops : Array Oper} {rest : List Oper} {o : Oper} {a : Act} {w : World} {Q : Exit → Act → World → Prop} (hgd : o.guard = none) (s x : Operand)
 (ho : o.op = .call { callee := .builtin .append, args := #[s, x], argTypes := #[23, 23] })
 (B : Nat) (v : Value) (l : List Df) (hs : a.eval s = v) (hown : OutD B w v l) (d : Df) (vk : Value) (q c : Nat) (hx : a.eval x = .slice (some ⟨q, 0, none⟩) 1 c) (T : TypeId) (fr : Nat × Nat)
 (hq : w.heap[q]? = some (.cells #[.string d.name, .int .i64 d.pos, vk] T fr)) (hk : Parts (Nw B w v) w vk d.kids) (hlen : l.length ≤ 16777216) (hB : B ≤ w.heap.size)
 (H : ∀ v' w', OutD B w' v' (l ++ [d]) → Below B w w' → w.grownBy w' v.ownBlock → (Kept (Nw B w v) w w' ∧ ∀ b, Nw B w v b → Nw B w' v' b) → wpList Tryz.prog ops Q rest (a.put o.dst v') w') : wpList Tryz.prog ops Q (o :: rest) a w := by
 obtain ⟨i0, hi, hz0, hz1, hz2⟩ := info_parts infoDef'
 obtain ⟨cs, hown, hrow⟩ := hown
 obtain ⟨ak, ck, rfl, k1, k2, k3⟩ := hk
 refine wpList_append_lies w hgd s x 23 ho B 70 i0 _ 3 48 Tryz.underlying23 hi hz0 hz1 hz2 (by rfl) (by decide) v l.length cs hs hown ⟨q, 0, none⟩ 1 c [.string d.name, .int .i64 d.pos, .slice ak d.kids.len ck] hx (by rfl) (cells_add hq) ?_ (by decide) (by unfold maxLen; omega) (by omega) hB w.heap.size rfl ?_
 · intro u hu
   simp only [List.mem_cons, List.not_mem_nil, or_false] at hu
   rcases hu with rfl | rfl | rfl <;> rfl
 · intro g cap w' hown' hgrow hat hlt
   obtain ⟨hkp, hmn⟩ := nw_step (B := B) (n := l.length + 1) (cap := cap) hgrow hat
   refine H _ w' ⟨cs ++ [.string d.name, .int .i64 d.pos, .slice ak d.kids.len ck], ?_, DRowC.app _ _ _ _ (DRowC.mono hmn _ _ (DRowC.kept hkp _ _ hrow)) ⟨.slice ak d.kids.len ck, [], by simp, ?_, rfl⟩⟩ ((Below.refl B w).grown hgrow hB (fun k hk => (World.ownsRow.lt hown k hk).1)) hgrow ⟨hkp, hmn⟩
   · rw [List.length_append]; exact hown'
   · exact Parts.mono (Parts.kept ⟨ak, ck, rfl, k1, k2, k3⟩ hkp) hmn
theorem run_append_none {w : World} (base : Nat) (t ty e : TypeId) (i : TypeInfo) (size : Nat) (ht : Tryz.prog.underlying t = some (.slice e)) (hi : Tryz.prog.info? e = some i) (c : Nat)
 (v : Value) (n : Nat) (xs : List Value) (hown : w.ownsRow base e size v n xs) : (Builtin.append_ #[t, t] ty #[v, .slice none 0 c]).run Tryz.prog w = .ok v w := by
 rcases hown.2 with ⟨rfl, rfl⟩ | ⟨g, cap, cur, rfl, _, _, hnc, _⟩
 · simp [Builtin.append_, run_underlying ht, sizeOf, typeInfo, hi, Builtin.lenOf, Builtin.firstCells]
 · simp [Builtin.append_, run_underlying ht, sizeOf, typeInfo, hi, Builtin.lenOf, Builtin.firstCells, hnc, storeCells]
theorem app_none {w : World} {ops : Array Oper} {rest : List Oper} {o : Oper} {a : Act} {Q : Exit → Act → World → Prop} (hgd : o.guard = none) (s x : Operand) (t : TypeId)
 (ho : o.op = .call { callee := .builtin .append, args := #[s, x], argTypes := #[t, t] })
 (base : Nat) (e : TypeId) (i : TypeInfo) (size : Nat) (ht : Tryz.prog.underlying t = some (.slice e)) (hi : Tryz.prog.info? e = some i) (c : Nat)
 (v : Value) (n : Nat) (xs : List Value) (hs : a.eval s = v) (hown : w.ownsRow base e size v n xs) (hx : a.eval x = .slice none 0 c)
 (h : wpList Tryz.prog ops Q rest (a.put o.dst v) w) : wpList Tryz.prog ops Q (o :: rest) a w := by
 refine wpList_plain hgd fun K hK => ?_
 have hrun := run_append_none (w := w) base t o.type e i size ht hi c v n xs hown
 unfold Oper.wp
 simp [execOp, ho, resolve, invoke, builtin, hs, hx, hrun, Result.andThen]
 exact hK _ _ h
theorem infoStrC : (Tryz.prog.info? 9).map (fun i => (i.zero, i.size, i.bytes)) = some (some (.string ⟨#[]⟩), 1, 16) := by kernel_rfl
theorem app_strs {ops : Array Oper} {rest : List Oper} {o : Oper} {a : Act} {w : World} {Q : Exit → Act → World → Prop} (hgd : o.guard = none) (s x : Operand)
 (ho : o.op = .call { callee := .builtin .append, args := #[s, x], argTypes := #[28, 28] })
 (B : Nat) (hs : a.eval s = .slice none 0 0) (ok : Nat → Prop) (l : List ByteArray) (v : Value) (hx : a.eval x = v) (hv : Strs ok w v l) (hlen : l.length ≤ 16777216) (hB : B ≤ w.heap.size)
 (H : ∀ v' w', Strs (Nb B w') w' v' l → Below B w w' → w.grownBy w' none → wpList Tryz.prog ops Q rest (a.put o.dst v') w') : wpList Tryz.prog ops Q (o :: rest) a w := by
 obtain ⟨i0, hi, hz0, hz1, hz2⟩ := info_parts infoStrC
 obtain ⟨an, c, rfl, h1, h2, h3⟩ := hv
 have hnil : w.ownsRow B 9 1 (.slice none 0 0) 0 [] := World.ownsRow_nil _ _ _ _
 cases an with
 | none =>
   cases l with
   | nil => exact app_none hgd s x 28 ho B 9 i0 1 Tryz.underlying28 hi c _ 0 [] hs hnil hx (H _ _ (Strs.nil _ _) (Below.refl _ _) (World.grownBy.refl w _))
   | cons y l => obtain ⟨b, o, hc, -⟩ := h3 (by simp); cases hc
 | some ad =>
   refine wpList_append_own w hgd s x 28 ho B 9 i0 (.string ⟨#[]⟩) 1 16 Tryz.underlying28 hi hz0 hz1 hz2 (by rfl) (by decide) _ 0 [] hs hnil ad l.length c (l.map Value.string) hx (by simp) ?_ ?_ (by unfold maxLen; omega) (by omega) hB ?_
   · intro j u hj
     obtain ⟨x, hx1, rfl⟩ : ∃ x, l[j]? = some x ∧ Value.string x = u := by simpa using hj
     obtain ⟨b, o, hc, -, hcl⟩ := h3 (by rintro rfl; simp at hx1)
     obtain rfl : ad = ⟨b, o, none⟩ := Option.some.inj hc
     have hadd : (⟨b, o, none⟩ : Addr).add j = ⟨b, o + j, none⟩ := by unfold Addr.add; split <;> simp_all
     rw [hadd]; exact hcl j x hx1
   · intro u hu
     obtain ⟨x, -, rfl⟩ := List.mem_map.1 hu
     rfl
   · intro v' w' hown' hgrow _
     have hb : Below B w w' := (Below.refl B w).grown hgrow hB (fun k hk => (World.ownsRow.lt hnil k hk).1)
     refine H v' w' ?_ hb hgrow
     rw [Nat.zero_add, List.nil_append] at hown'
     obtain ⟨a', c', rfl, q1, q2, q3⟩ := own_elems hown'
     refine ⟨a', c', rfl, q1, q2, fun hn => ?_⟩
     obtain ⟨g, rfl, g1, g2, g3⟩ := q3 (by simpa using hn)
     exact ⟨g, 0, rfl, ⟨g1, g2⟩, fun i s hi => by rw [Nat.zero_add]; exact g3 i _ (by simp [hi])⟩
end Go.Proofs.YtepcpgdfbaklfaaGreatDoor
