/-
  Slices of parts and of templates that a call makes itself, by append. The condition: at most 2 to the 24th parts.
-/
/-
  The contract of lacunaref00.CopyParts: a list of its own, in new blocks. The condition: no more than 2 to the 24th parts, names or bytes.
-/
/-
  The contract of lacunaref00.CopyTemplate: a template of its own, in new blocks. The condition: sizes of at most 2 to the 24th.
-/
import Derived.Test.YtdgcdjpjnhlihaaGreatDoorMgTrd
import Derived.Test.YtdgcdjpjnhlihaaGreatDoorMgTs0
import Derived.Laws.AppendOwnNone
import Derived.Test.YtdgcdjpjnhlihaaGreatDoorTs2M
import Derived.Test.YtdgcdjpjnhlihaaGreatDoorMgTrc
set_option linter.unusedVariables false
set_option linter.unusedSimpArgs false
namespace Go.Proofs.YtdgcdjpjnhlihaaGreatDoor
open Go.RowKit Go.Shelf

theorem RowC.kept {ok : Nat → Prop} {w w' : World} (hk : Kept ok w w') : ∀ (t : Pt) (cs : List Value), RowC ok w t cs → RowC ok w' t cs := by
  intro t
  induction t with
  | nil => intro cs h; exact h
  | cons h k e r _ _ ih =>
    rintro cs ⟨vn, vk, ve, cs', rfl, h1, h2, h3, h4⟩
    exact ⟨vn, vk, ve, cs', rfl, h1.kept hk, h2.kept hk, h3.kept hk, ih _ h4⟩
theorem RowC.mono {ok ok' : Nat → Prop} {w : World} (hk : ∀ b, ok b → ok' b) : ∀ (t : Pt) (cs : List Value), RowC ok w t cs → RowC ok' w t cs := by
  intro t
  induction t with
  | nil => intro cs h; exact h
  | cons h k e r _ _ ih =>
    rintro cs ⟨vn, vk, ve, cs', rfl, h1, h2, h3, h4⟩
    exact ⟨vn, vk, ve, cs', rfl, h1.mono hk, h2.mono hk, h3.mono hk, ih _ h4⟩
theorem DRowC.kept {ok : Nat → Prop} {w w' : World} (hk : Kept ok w w') : ∀ (t : List Df) (cs : List Value), DRowC ok w t cs → DRowC ok w' t cs := by
  intro t
  induction t with
  | nil => intro cs h; exact h
  | cons d r ih =>
    rintro cs ⟨v, cs', rfl, h1, h4⟩
    exact ⟨v, cs', rfl, h1.kept hk, ih _ h4⟩
theorem DRowC.mono {ok ok' : Nat → Prop} {w : World} (hk : ∀ b, ok b → ok' b) : ∀ (t : List Df) (cs : List Value), DRowC ok w t cs → DRowC ok' w t cs := by
  intro t
  induction t with
  | nil => intro cs h; exact h
  | cons d r ih =>
    rintro cs ⟨v, cs', rfl, h1, h4⟩
    exact ⟨v, cs', rfl, h1.mono hk, ih _ h4⟩
theorem DRowC.len {ok : Nat → Prop} {w : World} : ∀ (l : List Df) (cs : List Value), DRowC ok w l cs → cs.length = l.length * 3 := by
  intro l
  induction l with
  | nil => intro cs h; obtain rfl : cs = [] := h; rfl
  | cons d r ih =>
    rintro cs ⟨v, cs', rfl, h1, h4⟩
    have := ih _ h4
    simp only [List.length_append, List.length_cons, List.length_nil]; omega
theorem DRowC.row {ok : Nat → Prop} {w : World} : ∀ (l : List Df) (cs : List Value) (b o : Nat), DRowC ok w l cs → (∀ j u, cs[j]? = some u → w.cell? ⟨b, o + j, none⟩ = some u) → DRow ok w l b o := by
  intro l
  induction l with
  | nil => intro cs b o _ _; exact trivial
  | cons d r ih =>
    rintro cs b o ⟨v, cs', rfl, h1, h4⟩ hc
    refine ⟨hc 0 _ rfl, hc 1 _ rfl, ⟨v, hc 2 _ rfl, h1⟩, ih cs' b (o + 3) h4 (fun j u hj => ?_)⟩
    have := hc (3 + j) u (by rw [List.getElem?_append_right (by simp)]; simpa using hj)
    rwa [show o + (3 + j) = o + 3 + j by omega] at this
theorem own_kept {w w' : World} {B sz n : Nat} {e : TypeId} {v : Value} {xs : List Value} (h : w.ownsRow B e sz v n xs) (hb : ∀ g, v.ownBlock = some g → w'.heap[g]? = w.heap[g]?) : w'.ownsRow B e sz v n xs := by
  refine ⟨h.1, ?_⟩
  rcases h.2 with h | ⟨g, cap, cur, h1, h2, h3, h4⟩
  · exact .inl h
  · exact .inr ⟨g, cap, cur, h1, h2, (hb g (by rw [h1]; rfl)).trans h3, h4⟩
theorem own_new {w : World} {B sz n : Nat} {e : TypeId} {v : Value} {xs : List Value} (h : w.ownsRow B e sz v n xs) : ∀ g, v.ownBlock = some g → B ≤ g ∧ g < w.heap.size := fun g hg => ⟨(World.ownsRow.lt h g hg).1, (World.ownsRow.lt h g hg).2⟩

/-- Blocks that are new, and not a slice's own. -/
def Nw (B : Nat) (w : World) (v : Value) (b : Nat) : Prop := B ≤ b ∧ b < w.heap.size ∧ v.ownBlock ≠ some b
/-- New blocks. -/
def Nb (B : Nat) (w : World) (b : Nat) : Prop := B ≤ b ∧ b < w.heap.size
/-- A []api.Part of the call's own, from block B on. -/
def OutM (B : Nat) (w : World) (v : Value) (t : Pt) : Prop := ∃ cs, w.ownsRow B 58 8 v t.len cs ∧ RowC (Nw B w v) w t cs
theorem OutM.nil (B : Nat) (w : World) : OutM B w (.slice none 0 0) .nil := ⟨[], World.ownsRow_nil _ _ _ _, rfl⟩
theorem OutM.below {B : Nat} {w w' : World} {v : Value} {t : Pt} (h : OutM B w v t) (hb : Below w.heap.size w w') : OutM B w' v t := by
  obtain ⟨cs, h1, h2⟩ := h
  refine ⟨cs, own_kept h1 (fun g hg => hb.block g (own_new h1 g hg).2), ?_⟩
  exact (h2.kept (fun b h => hb.block b h.2.1)).mono (fun b h => ⟨h.1, Nat.lt_of_lt_of_le h.2.1 hb.size, h.2.2⟩) _ _
theorem own_elems {w : World} {B sz n : Nat} {e : TypeId} {v : Value} {xs : List Value} (h : w.ownsRow B e sz v n xs) : ∃ a c, v = .slice a n c ∧ n ≤ c ∧ c ≤ maxLen ∧ (xs ≠ [] → ∃ g, a = some ⟨g, 0, none⟩ ∧ B ≤ g ∧ g < w.heap.size ∧ ∀ j u, xs[j]? = some u → w.cell? ⟨g, j, none⟩ = some u) := by
  rcases h with ⟨hl, ⟨rfl, rfl⟩ | ⟨g, cap, cur, rfl, hB, hg, hle, hcap, hsz, ht⟩⟩
  · exact ⟨none, 0, rfl, Nat.le_refl _, by decide, fun hx => by simp at hl; exact absurd hl hx⟩
  · refine ⟨_, _, rfl, hle, hcap, fun _ => ⟨g, rfl, hB, lt_of_block hg, fun j u hj => ?_⟩⟩
    rw [cell_of_heap' hg, ← Array.getElem?_toList]
    rw [← ht, List.getElem?_take] at hj
    split at hj
    · exact hj
    · cases hj
theorem OutM.parts {B : Nat} {w : World} {v : Value} {t : Pt} (h : OutM B w v t) : Parts (Nb B w) w v t := by
  obtain ⟨cs, h1, h2⟩ := h
  obtain ⟨a, c, rfl, h3, h4, h5⟩ := own_elems h1
  refine ⟨a, c, rfl, h3, h4, fun hn => ?_⟩
  have hl := RowC.len _ _ h2
  obtain ⟨g, rfl, hg1, hg2, hc⟩ := h5 (by rintro rfl; cases t with
    | nil => exact hn rfl
    | cons _ _ _ _ => simp [Pt.len] at hl)
  exact ⟨g, 0, rfl, ⟨hg1, hg2⟩, RowC.row t cs g 0 (RowC.mono (fun b h => ⟨h.1, h.2.1⟩) _ _ h2) (fun j u hj => by rw [Nat.zero_add]; exact hc j u hj)⟩
/-- A []api.Def of the call's own, from block B on. -/
def OutD (B : Nat) (w : World) (v : Value) (l : List Df) : Prop := ∃ cs, w.ownsRow B 61 3 v l.length cs ∧ DRowC (Nw B w v) w l cs
theorem OutD.nil (B : Nat) (w : World) : OutD B w (.slice none 0 0) [] := ⟨[], World.ownsRow_nil _ _ _ _, rfl⟩
theorem OutD.below {B : Nat} {w w' : World} {v : Value} {l : List Df} (h : OutD B w v l) (hb : Below w.heap.size w w') : OutD B w' v l := by
  obtain ⟨cs, h1, h2⟩ := h
  refine ⟨cs, own_kept h1 (fun g hg => hb.block g (own_new h1 g hg).2), ?_⟩
  exact (h2.kept (fun b h => hb.block b h.2.1)).mono (fun b h => ⟨h.1, Nat.lt_of_lt_of_le h.2.1 hb.size, h.2.2⟩) _ _
theorem OutD.defs {B : Nat} {w : World} {v : Value} {l : List Df} (h : OutD B w v l) : Defs (Nb B w) w v l := by
  obtain ⟨cs, h1, h2⟩ := h
  obtain ⟨a, c, rfl, h3, h4, h5⟩ := own_elems h1
  refine ⟨a, c, rfl, h3, h4, fun hn => ?_⟩
  have hl := DRowC.len _ _ h2
  obtain ⟨g, rfl, hg1, hg2, hc⟩ := h5 (by rintro rfl; cases l with
    | nil => exact hn rfl
    | cons _ _ => simp at hl)
  exact ⟨g, 0, rfl, ⟨hg1, hg2⟩, DRowC.row l cs g 0 (DRowC.mono (fun b h => ⟨h.1, h.2.1⟩) _ _ h2) (fun j u hj => by rw [Nat.zero_add]; exact hc j u hj)⟩
/-- What an append leaves of the blocks. -/
theorem nw_step {B : Nat} {w w' : World} {v : Value} {g n cap : Nat} (hg : w.grownBy w' v.ownBlock) (hat : v.ownBlock = some g ∨ g = w.heap.size) :
    Kept (Nw B w v) w w' ∧ ∀ b, Nw B w v b → Nw B w' (.slice (some ⟨g, 0, none⟩) n cap) b := by
  refine ⟨fun b hb => hg.block b hb.2.1 (fun e => hb.2.2 e.symm), fun b hb => ⟨hb.1, Nat.lt_of_lt_of_le hb.2.1 hg.size, ?_⟩⟩
  show some g ≠ some b
  rintro ⟨rfl⟩
  rcases hat with h | h
  · exact hb.2.2 h
  · have := hb.2.1; omega
theorem infoDef' : (Tryz.prog.info? 61).map (fun i => (i.zero, i.size, i.bytes)) = some (some (.agg #[.string ⟨#[]⟩, .int .i64 0, .slice none 0 0]), 3, 48) := by kernel_rfl
theorem cells_add {w : World} {q : Nat} {cs : Array Value} {T : TypeId} {fr : Nat × Nat} (hq : w.heap[q]? = some (.cells cs T fr)) : ∀ j u, cs.toList[j]? = some u → w.cell? ((⟨q, 0, none⟩ : Addr).add j) = some u := fun j u hu => by
  have hadd : (⟨q, 0, none⟩ : Addr).add j = ⟨q, j, none⟩ := by unfold Addr.add; split <;> simp_all
  rw [hadd, cell_of_heap' hq]; simpa using hu
/-- append of a part. -/
theorem app_part {ops : Array Oper} {rest : List Oper} {o : Oper} {a : Act} {w : World} {Q : Exit → Act → World → Prop} (hgd : o.guard = none) (s x : Operand)
    (ho : o.op = .call { callee := .builtin .append, args := #[s, x], argTypes := #[22, 22] })
    (B : Nat) (v : Value) (t : Pt) (hs : a.eval s = v) (hown : OutM B w v t) (h : Hd) (k e : Pt) (vn vk ve : Value) (q c : Nat) (hx : a.eval x = .slice (some ⟨q, 0, none⟩) 1 c) (T : TypeId) (fr : Nat × Nat)
    (hq : w.heap[q]? = some (.cells (pCells h vn vk ve) T fr)) (hn : Strs (Nw B w v) w vn h.names) (hk : Parts (Nw B w v) w vk k) (he : Parts (Nw B w v) w ve e) (hlen : t.len ≤ 16777216) (hB : B ≤ w.heap.size)
    (H : ∀ v' w', OutM B w' v' (t.app (.one h k e)) → Below B w w' → w.grownBy w' v.ownBlock → (Kept (Nw B w v) w w' ∧ ∀ b, Nw B w v b → Nw B w' v' b) → wpList Tryz.prog ops Q rest (a.put o.dst v') w') : wpList Tryz.prog ops Q (o :: rest) a w := by
  obtain ⟨i0, hi, hz0, hz1, hz2⟩ := info_parts infoPart
  obtain ⟨cs, hown, hrow⟩ := hown
  obtain ⟨an, cn, rfl, n1, n2, n3⟩ := hn
  obtain ⟨ak, ck, rfl, k1, k2, k3⟩ := hk
  obtain ⟨ae, ce, rfl, e1, e2, e3⟩ := he
  refine wpList_append_lies w hgd s x 22 ho B 58 i0 _ 8 128 Tryz.underlying22 hi hz0 hz1 hz2 (by rfl) (by decide) v t.len cs hs hown ⟨q, 0, none⟩ 1 c (hdCells h (.slice an h.names.length cn) (.slice ak k.len ck) (.slice ae e.len ce)) hx (by rfl) (cells_add hq) ?_ (by decide) (by unfold maxLen; omega) (by omega) hB w.heap.size rfl ?_
  · intro u hu
    simp only [hdCells, List.mem_cons, List.not_mem_nil, or_false] at hu
    rcases hu with rfl | rfl | rfl | rfl | rfl | rfl | rfl | rfl <;> rfl
  · intro g cap w' hown' hgrow hat hlt
    obtain ⟨hkp, hmn⟩ := nw_step (B := B) (n := t.len + 1) (cap := cap) hgrow hat
    refine H _ w' ⟨cs ++ hdCells h (.slice an h.names.length cn) (.slice ak k.len ck) (.slice ae e.len ce), ?_, RowC.app _ _ _ _ (RowC.mono hmn _ _ (RowC.kept hkp _ _ hrow)) ⟨.slice an h.names.length cn, .slice ak k.len ck, .slice ae e.len ce, [], by simp [hdCells], ?_, ?_, ?_, rfl⟩⟩ ((Below.refl B w).grown hgrow hB (fun k hk => (World.ownsRow.lt hown k hk).1)) hgrow ⟨hkp, hmn⟩
    · rw [Pt.len_app]; exact hown'
    · exact Strs.mono (Strs.kept ⟨an, cn, rfl, n1, n2, n3⟩ hkp) hmn
    · exact Parts.mono (Parts.kept ⟨ak, ck, rfl, k1, k2, k3⟩ hkp) hmn
    · exact Parts.mono (Parts.kept ⟨ae, ce, rfl, e1, e2, e3⟩ hkp) hmn
/-- append of a template. -/
theorem app_def {ops : Array Oper} {rest : List Oper} {o : Oper} {a : Act} {w : World} {Q : Exit → Act → World → Prop} (hgd : o.guard = none) (s x : Operand)
    (ho : o.op = .call { callee := .builtin .append, args := #[s, x], argTypes := #[23, 23] })
    (B : Nat) (v : Value) (l : List Df) (hs : a.eval s = v) (hown : OutD B w v l) (d : Df) (vk : Value) (q c : Nat) (hx : a.eval x = .slice (some ⟨q, 0, none⟩) 1 c) (T : TypeId) (fr : Nat × Nat)
    (hq : w.heap[q]? = some (.cells #[.string d.name, .int .i64 d.pos, vk] T fr)) (hk : Parts (Nw B w v) w vk d.kids) (hlen : l.length ≤ 16777216) (hB : B ≤ w.heap.size)
    (H : ∀ v' w', OutD B w' v' (l ++ [d]) → Below B w w' → w.grownBy w' v.ownBlock → (Kept (Nw B w v) w w' ∧ ∀ b, Nw B w v b → Nw B w' v' b) → wpList Tryz.prog ops Q rest (a.put o.dst v') w') : wpList Tryz.prog ops Q (o :: rest) a w := by
  obtain ⟨i0, hi, hz0, hz1, hz2⟩ := info_parts infoDef'
  obtain ⟨cs, hown, hrow⟩ := hown
  obtain ⟨ak, ck, rfl, k1, k2, k3⟩ := hk
  refine wpList_append_lies w hgd s x 23 ho B 61 i0 _ 3 48 Tryz.underlying23 hi hz0 hz1 hz2 (by rfl) (by decide) v l.length cs hs hown ⟨q, 0, none⟩ 1 c [.string d.name, .int .i64 d.pos, .slice ak d.kids.len ck] hx (by rfl) (cells_add hq) ?_ (by decide) (by unfold maxLen; omega) (by omega) hB w.heap.size rfl ?_
  · intro u hu
    simp only [List.mem_cons, List.not_mem_nil, or_false] at hu
    rcases hu with rfl | rfl | rfl <;> rfl
  · intro g cap w' hown' hgrow hat hlt
    obtain ⟨hkp, hmn⟩ := nw_step (B := B) (n := l.length + 1) (cap := cap) hgrow hat
    refine H _ w' ⟨cs ++ [.string d.name, .int .i64 d.pos, .slice ak d.kids.len ck], ?_, DRowC.app _ _ _ _ (DRowC.mono hmn _ _ (DRowC.kept hkp _ _ hrow)) ⟨.slice ak d.kids.len ck, [], by simp, ?_, rfl⟩⟩ ((Below.refl B w).grown hgrow hB (fun k hk => (World.ownsRow.lt hown k hk).1)) hgrow ⟨hkp, hmn⟩
    · rw [List.length_append]; exact hown'
    · exact Parts.mono (Parts.kept ⟨ak, ck, rfl, k1, k2, k3⟩ hkp) hmn
/-- append of nothing. -/
theorem run_append_none {w : World} (base : Nat) (t ty e : TypeId) (i : TypeInfo) (size : Nat) (ht : Tryz.prog.underlying t = some (.slice e)) (hi : Tryz.prog.info? e = some i) (c : Nat)
    (v : Value) (n : Nat) (xs : List Value) (hown : w.ownsRow base e size v n xs) : (Builtin.append_ #[t, t] ty #[v, .slice none 0 c]).run Tryz.prog w = .ok v w := by
  rcases hown.2 with ⟨rfl, rfl⟩ | ⟨g, cap, cur, rfl, _, _, hnc, _⟩
  · simp [Builtin.append_, run_underlying ht, sizeOf, typeInfo, hi, Builtin.lenOf, Builtin.firstCells]
  · simp [Builtin.append_, run_underlying ht, sizeOf, typeInfo, hi, Builtin.lenOf, Builtin.firstCells, hnc, storeCells]
theorem app_none {w : World} {ops : Array Oper} {rest : List Oper} {o : Oper} {a : Act} {Q : Exit → Act → World → Prop} (hgd : o.guard = none) (s x : Operand) (t : TypeId)
    (ho : o.op = .call { callee := .builtin .append, args := #[s, x], argTypes := #[t, t] })
    (base : Nat) (e : TypeId) (i : TypeInfo) (size : Nat) (ht : Tryz.prog.underlying t = some (.slice e)) (hi : Tryz.prog.info? e = some i) (c : Nat)
    (v : Value) (n : Nat) (xs : List Value) (hs : a.eval s = v) (hown : w.ownsRow base e size v n xs) (hx : a.eval x = .slice none 0 c)
    (h : wpList Tryz.prog ops Q rest (a.put o.dst v) w) : wpList Tryz.prog ops Q (o :: rest) a w := by
  refine wpList_plain hgd fun K hK => ?_
  have hrun := run_append_none (w := w) base t o.type e i size ht hi c v n xs hown
  unfold Oper.wp
  simp [execOp, ho, resolve, invoke, builtin, hs, hx, hrun, Result.andThen]
  exact hK _ _ h
theorem infoStrC : (Tryz.prog.info? 9).map (fun i => (i.zero, i.size, i.bytes)) = some (some (.string ⟨#[]⟩), 1, 16) := by kernel_rfl
/-- append of texts to nothing: a list of the call's own. -/
theorem app_strs {ops : Array Oper} {rest : List Oper} {o : Oper} {a : Act} {w : World} {Q : Exit → Act → World → Prop} (hgd : o.guard = none) (s x : Operand)
    (ho : o.op = .call { callee := .builtin .append, args := #[s, x], argTypes := #[43, 43] })
    (B : Nat) (hs : a.eval s = .slice none 0 0) (ok : Nat → Prop) (l : List ByteArray) (v : Value) (hx : a.eval x = v) (hv : Strs ok w v l) (hlen : l.length ≤ 16777216) (hB : B ≤ w.heap.size)
    (H : ∀ v' w', Strs (Nb B w') w' v' l → Below B w w' → w.grownBy w' none → wpList Tryz.prog ops Q rest (a.put o.dst v') w') : wpList Tryz.prog ops Q (o :: rest) a w := by
  obtain ⟨i0, hi, hz0, hz1, hz2⟩ := info_parts infoStrC
  obtain ⟨an, c, rfl, h1, h2, h3⟩ := hv
  have hnil : w.ownsRow B 9 1 (.slice none 0 0) 0 [] := World.ownsRow_nil _ _ _ _
  cases an with
  | none =>
    cases l with
    | nil => exact app_none hgd s x 43 ho B 9 i0 1 Tryz.underlying43 hi c _ 0 [] hs hnil hx (H _ _ (Strs.nil _ _) (Below.refl _ _) (World.grownBy.refl w _))
    | cons y l => obtain ⟨b, o, hc, -⟩ := h3 (by simp); cases hc
  | some ad =>
    refine wpList_append_own w hgd s x 43 ho B 9 i0 (.string ⟨#[]⟩) 1 16 Tryz.underlying43 hi hz0 hz1 hz2 (by rfl) (by decide) _ 0 [] hs hnil ad l.length c (l.map Value.string) hx (by simp) ?_ ?_ (by unfold maxLen; omega) (by omega) hB ?_
    · intro j u hj
      obtain ⟨x, hx1, rfl⟩ : ∃ x, l[j]? = some x ∧ Value.string x = u := by simpa using hj
      obtain ⟨b, o, hc, -, hcl⟩ := h3 (by rintro rfl; simp at hx1)
      obtain rfl : ad = ⟨b, o, none⟩ := Option.some.inj hc
      have hadd : (⟨b, o, none⟩ : Addr).add j = ⟨b, o + j, none⟩ := by unfold Addr.add; split <;> simp_all
      rw [hadd]; exact hcl j x hx1
    · intro u hu
      obtain ⟨x, -, rfl⟩ := List.mem_map.1 hu
      rfl
    · intro v' w' hown' hgrow _
      have hb : Below B w w' := (Below.refl B w).grown hgrow hB (fun k hk => (World.ownsRow.lt hnil k hk).1)
      refine H v' w' ?_ hb hgrow
      rw [Nat.zero_add, List.nil_append] at hown'
      obtain ⟨a', c', rfl, q1, q2, q3⟩ := own_elems hown'
      refine ⟨a', c', rfl, q1, q2, fun hn => ?_⟩
      obtain ⟨g, rfl, g1, g2, g3⟩ := q3 (by simpa using hn)
      exact ⟨g, 0, rfl, ⟨g1, g2⟩, fun i s hi => by rw [Nat.zero_add]; exact g3 i _ (by simp [hi])⟩
end Go.Proofs.YtdgcdjpjnhlihaaGreatDoor
set_option linter.unusedVariables false
set_option linter.unusedSimpArgs false
namespace Go.Proofs.YtdgcdjpjnhlihaaGreatDoor
open Go.RowKit Go.Shelf
attribute [local go_sem ↓] Go.wp_at_zero Go.wp_at_succ

def CpP (x : Pt) (w : World) (e : Ending) (w' : World) : Prop := ∃ v', e = .returned v' ∧ Parts (Nb w.heap.size w') w' v' x ∧ Below w.heap.size w w'
def CpSaid (n : Nat) : Prop := ∀ (x : Pt), x.cnt < n → ∀ (ok : Nat → Prop) (v : Value) (w : World), x.sm → x.cnt ≤ 16777216 → Parts ok w v x → Calls Tryz.prog 23 #[v] w (CpP x w)
theorem set4 (h : Hd) (vn vk ve v : Value) : (pCells h vn vk ve).setIfInBounds 4 v = pCells h v vk ve := rfl
theorem set6 (h : Hd) (vn vk ve v : Value) : (pCells h vn vk ve).setIfInBounds 6 v = pCells h vn v ve := rfl
theorem set7 (h : Hd) (vn vk ve v : Value) : (pCells h vn vk ve).setIfInBounds 7 v = pCells h vn vk v := rfl
theorem app_one (d : Pt) (h : Hd) (k e r : Pt) : (d.app (.one h k e)).app r = d.app (.cons h k e r) := by rw [Pt.app_assoc]; rfl
theorem app_len1 (d : Pt) (h : Hd) (k e : Pt) : (d.app (.one h k e)).len = d.len + 1 := by rw [Pt.len_app]; rfl
/-- A store into a block that is younger. -/
theorem Strs.set {C q j : Nat} {w : World} {v u : Value} {l : List ByteArray} (h : Strs (Nb C w) w v l) (hq : q < C) : Strs (Nb C (w.setCell ⟨q, j, none⟩ u)) (w.setCell ⟨q, j, none⟩ u) v l :=
  (h.kept (fun b hb => Below.heap_setCell _ _ _ _ (fun e => by have e2 : b = q := e; have := hb.1; omega))).mono (fun b hb => ⟨hb.1, by simp [World.setCell]; exact hb.2⟩)
theorem Parts.set {C q j : Nat} {w : World} {v u : Value} {l : Pt} (h : Parts (Nb C w) w v l) (hq : q < C) : Parts (Nb C (w.setCell ⟨q, j, none⟩ u)) (w.setCell ⟨q, j, none⟩ u) v l :=
  (h.kept (fun b hb => Below.heap_setCell _ _ _ _ (fun e => by have e2 : b = q := e; have := hb.1; omega))).mono (fun b hb => ⟨hb.1, by simp [World.setCell]; exact hb.2⟩)
theorem Strs.grow {C : Nat} {w w' : World} {v : Value} {l : List ByteArray} (h : Strs (Nb C w) w v l) (hb : Below w.heap.size w w') : Strs (Nb C w') w' v l :=
  (h.kept (fun b k => hb.block b k.2)).mono (fun b k => ⟨k.1, Nat.lt_of_lt_of_le k.2 hb.size⟩)
theorem Parts.grow {C : Nat} {w w' : World} {v : Value} {l : Pt} (h : Parts (Nb C w) w v l) (hb : Below w.heap.size w w') : Parts (Nb C w') w' v l :=
  (h.kept (fun b k => hb.block b k.2)).mono (fun b k => ⟨k.1, Nat.lt_of_lt_of_le k.2 hb.size⟩)
set_option maxRecDepth 100000 in
set_option maxHeartbeats 40000000 in
theorem cp_step (n : Nat) (ih : CpSaid n) : CpSaid (n + 1) := by
  intro x hn ok v w hsm hcx hx
  obtain ⟨a, c, rfl, h1, h2, h3⟩ := hx.lt
  have HX : Hid (Rest ok a w x 0) := fun hne => by
    obtain ⟨b, o, q1, q2, q3⟩ := h3 hne
    exact ⟨b, o, q1, q2, by rw [Nat.zero_mul, Nat.add_zero]; exact q3⟩
  have HSM := Lib.hid hsm
  have IH := Lib.hid ih
  have hlc := len_le_cnt x
  clear h3 hx h1 h2 ih hsm
  go_enter Tryz.func23, Tryz.ntmps23
  go_wp2_with fail
  go_loopw [3, 4] (fun v3 v4 wr => ∃ (k : Nat) (oa : Option Addr) (on oc : Nat) (d r : Pt), v3 = .slice oa on oc ∧ v4 = .int .i64 (k : Nat) ∧ k + r.len = x.len ∧ Hid (OutM w.heap.size wr v3 d) ∧ Hid (d.app r = x) ∧ Hid (d.len = k) ∧ Hid (Rest ok a w r k) ∧ r.cnt ≤ x.cnt ∧ Hid r.sm ∧ Hid (Below w.heap.size w wr)) (fun _ i _ => x.len - (intOf i).toNat)
  case atStart => exact ⟨0, none, 0, 0, .nil, x, rfl, rfl, by omega, OutM.nil _ _, rfl, rfl, HX, Nat.le_refl _, HSM, Below.refl _ _⟩
  case round =>
    obtain ⟨k, oa, on, oc, d, r, rfl, rfl, hk, HO, HD, HDL, HR, hcn, HSR, HB⟩ := hrel
    cases r with
    | nil =>
      simp only [Pt.len] at hk
      have hge : ¬ (k : Int) < (x.len : Int) := by omega
      have HE : Hid (d = x) := by have := HD.out; rwa [Pt.app_nil] at this
      go_wp2_with fail
      go_ret
      exact ⟨_, rfl, by rw [← HE.out]; exact HO.out.parts, HB.out⟩
    | cons h kd el r =>
      simp only [Pt.len] at hk
      simp only [Pt.cnt] at hcn
      have hkt : (k : Int) < (x.len : Int) := by omega
      have hk0 : (0 : Int) ≤ (k : Int) := by omega
      obtain ⟨hsh, hsk, hse, hsr⟩ := HSR.out
      have HSR2 := Lib.hid hsr
      obtain ⟨s1, s2, s3, s4, s5⟩ := hsh
      obtain ⟨b, o, rfl, hb, hrow⟩ := HR.out (by simp)
      have HRS : Hid (Rest ok (some ⟨b, o, none⟩) w r (k + 1)) := fun _ => ⟨b, o, rfl, hb, by have := hrow.2.2.2; rwa [show o + k * 8 + 8 = o + (k + 1) * 8 by omega] at this⟩
      obtain ⟨⟨g0, g1, g2, g3, ⟨vn, g4, hstr⟩, g5⟩, ⟨ak, ck, g6, k1, k2, k3⟩, ⟨ae, ce, g7, e1, e2, e3⟩, -⟩ := hrow
      have hsw := HB.out.size
      have KC : Hid (∀ W, Below w.heap.size w W → Calls Tryz.prog 23 #[.slice ak kd.len ck] W (CpP kd W)) := fun W hW =>
        IH.out kd (by omega) (fun b => ok b ∧ b < w.heap.size) _ W hsk (by omega) (Parts.kept ⟨ak, ck, rfl, k1, k2, k3⟩ (fun b hb => hW.block b hb.2))
      have EC : Hid (∀ W, Below w.heap.size w W → Calls Tryz.prog 23 #[.slice ae el.len ce] W (CpP el W)) := fun W hW =>
        IH.out el (by omega) (fun b => ok b ∧ b < w.heap.size) _ W hse (by omega) (Parts.kept ⟨ae, ce, rfl, e1, e2, e3⟩ (fun b hb => hW.block b hb.2))
      have HST : Hid (∀ W, Below w.heap.size w W → Strs (fun b => ok b ∧ b < w.heap.size) W vn h.names) := fun W hW => hstr.kept (fun b hb => hW.block b hb.2)
      have HA : Hid (Below wr.heap.size wr (wr.alloc (.cells (pCells h vn (.slice ak kd.len ck) (.slice ae el.len ce)) 58))) := (Below.refl _ wr).alloc (Nat.le_refl _) _
      have HT : Hid ((wr.alloc (.cells (pCells h vn (.slice ak kd.len ck) (.slice ae el.len ce)) 58)).heap[wr.heap.size]? = some (.cells (pCells h vn (.slice ak kd.len ck) (.slice ae el.len ce)) 58 (0, 0))) := heap_alloc_new wr _
      have HS : Hid ((wr.alloc (.cells (pCells h vn (.slice ak kd.len ck) (.slice ae el.len ce)) 58)).heap.size = wr.heap.size + 1) := by unfold Hid; simp
      obtain ⟨an, cn, rfl, n1, n2, -⟩ := hstr
      have cc : ∀ j y, w.cell? ⟨b, o + k * 8 + j, none⟩ = some y → wr.cell? ⟨b, o + k * 8 + j, none⟩ = some y := fun j y hy => (HB.out.cell (p := ⟨b, _, none⟩) hb.2).trans hy
      have p0 := cc 0 _ g0
      have p1 := cc 1 _ g1
      have p2 := cc 2 _ g2
      have p3 := cc 3 _ g3
      have p4 := cc 4 _ g4
      have p5 := cc 5 _ g5
      have p6 := cc 6 _ g6
      have p7 := cc 7 _ g7
      rw [Nat.add_zero] at p0
      have hbl : b < wr.heap.size := Nat.lt_of_lt_of_le hb.2 HB.out.size
      have HKI := Lib.hid hk
      have hki : k + 1 + r.len ≤ x.len := by omega
      have hs4 : h.names.length ≤ 16777216 := s4
      clear k3 e3 g0 g1 g2 g3 g4 g5 g6 g7 cc hk hsk hse hsr s5
      unfold pCells at HA HT HS
      go_upto_region 6 with (fail)
      generalize hWW : World.alloc wr _ = W0 at *
      clear hWW p0 p1 p2 p3 p4 p5 p6 p7
      have HBW0 : Hid (Below w.heap.size w W0) := HB.out.trans (HA.out.mono hsw)
      have HO0 : Hid (OutM w.heap.size W0 (.slice oa on oc) d) := HO.out.below HA.out
      have x4 : W0.cell? ⟨wr.heap.size, 4, none⟩ = some (.slice an h.names.length cn) := by rw [cell_of_heap' HT.out]; rfl
      have ST0 := Lib.hid (HST.out _ HBW0.out)
      have hP : wr.heap.size < W0.heap.size := by rw [HS.out]; omega
      go_upto_region 7 with (at_builtin; refine app_strs rfl _ _ rfl W0.heap.size rfl _ h.names _ rfl ST0.out hs4 (Nat.le_refl _) ?_; intro v1 w1 hv1 hb1 hg1; obtain ⟨a1, c1, rfl, q1, q2, -⟩ := id hv1; have HV1 := Lib.hid hv1; have HB1 := Lib.hid hb1; clear hv1 hb1 hg1; have c4 : w1.cell? ⟨wr.heap.size, 4, none⟩ = some (.slice an h.names.length cn) := (HB1.out.cell (p := ⟨wr.heap.size, 4, none⟩) hP).trans x4; have z4 : w1.frozen? ⟨wr.heap.size, 4, none⟩ = false := frozen_cells ((HB1.out.block _ hP).trans HT.out) 4)
      have HP1 : Hid ((w1.setCell ⟨wr.heap.size, 4, none⟩ (.slice a1 h.names.length c1)).heap[wr.heap.size]? = some (.cells (pCells h (.slice a1 h.names.length c1) (.slice ak kd.len ck) (.slice ae el.len ce)) 58 (0, 0))) := set_cells (j := 4) ((HB1.out.block _ hP).trans HT.out) _
      have HBX1 : Hid (Below wr.heap.size wr (w1.setCell ⟨wr.heap.size, 4, none⟩ (.slice a1 h.names.length c1))) := (HA.out.trans (HB1.out.mono (Nat.le_of_lt hP))).setCell (p := ⟨wr.heap.size, 4, none⟩) (Nat.le_refl _) _
      have HV : Hid (Strs (Nb (wr.heap.size + 1) (w1.setCell ⟨wr.heap.size, 4, none⟩ (.slice a1 h.names.length c1))) (w1.setCell ⟨wr.heap.size, 4, none⟩ (.slice a1 h.names.length c1)) (.slice a1 h.names.length c1) h.names) := by
        have := HV1.out; rw [HS.out] at this; exact this.set (Nat.lt_succ_self _)
      have HZ1 : Hid (wr.heap.size + 1 ≤ (w1.setCell ⟨wr.heap.size, 4, none⟩ (.slice a1 h.names.length c1)).heap.size) := by
        have := HB1.out.size; rw [HS.out] at this; unfold Hid; simp [World.setCell]; exact this
      clear c4 z4 x4 ST0 HB1 HV1
      generalize World.setCell w1 _ _ = W1 at *
      have HBW1 : Hid (Below w.heap.size w W1) := HB.out.trans (HBX1.out.mono hsw)
      have x6 : W1.cell? ⟨wr.heap.size, 6, none⟩ = some (.slice ak kd.len ck) := by rw [cell_of_heap' HP1.out]; rfl
      have KC1 := Lib.hid (KC.out _ HBW1.out)
      go_wp2_with fail
      refine KC1.out.mono ?_
      rintro e w2 ⟨v2, rfl, hv2, hb2⟩
      obtain ⟨a2, c2, rfl, q3, q4, -⟩ := id hv2
      have HB2 := Lib.hid hb2
      have HV2 := Lib.hid hv2
      have hP1 : wr.heap.size < W1.heap.size := HZ1.out
      have c6 : w2.cell? ⟨wr.heap.size, 6, none⟩ = some (.slice ak kd.len ck) := (HB2.out.cell (p := ⟨wr.heap.size, 6, none⟩) hP1).trans x6
      have z6 : w2.frozen? ⟨wr.heap.size, 6, none⟩ = false := frozen_cells ((HB2.out.block _ hP1).trans HP1.out) 6
      clear hb2 hv2 KC1 x6
      go_upto_region 8 with (fail)
      have HP2 : Hid ((w2.setCell ⟨wr.heap.size, 6, none⟩ (.slice a2 kd.len c2)).heap[wr.heap.size]? = some (.cells (pCells h (.slice a1 h.names.length c1) (.slice a2 kd.len c2) (.slice ae el.len ce)) 58 (0, 0))) := set_cells (j := 6) ((HB2.out.block _ hP1).trans HP1.out) _
      have HBX2 : Hid (Below wr.heap.size wr (w2.setCell ⟨wr.heap.size, 6, none⟩ (.slice a2 kd.len c2))) := (HBX1.out.trans (HB2.out.mono (Nat.le_of_lt hP1))).setCell (p := ⟨wr.heap.size, 6, none⟩) (Nat.le_refl _) _
      have HVb : Hid (Strs (Nb (wr.heap.size + 1) (w2.setCell ⟨wr.heap.size, 6, none⟩ (.slice a2 kd.len c2))) (w2.setCell ⟨wr.heap.size, 6, none⟩ (.slice a2 kd.len c2)) (.slice a1 h.names.length c1) h.names) := (HV.out.grow HB2.out).set (Nat.lt_succ_self _)
      have HK : Hid (Parts (Nb (wr.heap.size + 1) (w2.setCell ⟨wr.heap.size, 6, none⟩ (.slice a2 kd.len c2))) (w2.setCell ⟨wr.heap.size, 6, none⟩ (.slice a2 kd.len c2)) (.slice a2 kd.len c2) kd) := by
        have := HV2.out.mono (ok' := Nb (wr.heap.size + 1) w2) (fun b hb => ⟨Nat.le_trans HZ1.out hb.1, hb.2⟩)
        exact this.set (Nat.lt_succ_self _)
      have HZ2 : Hid (wr.heap.size + 1 ≤ (w2.setCell ⟨wr.heap.size, 6, none⟩ (.slice a2 kd.len c2)).heap.size) := by
        have := HB2.out.size; unfold Hid; simp [World.setCell]; have := HZ1.out; omega
      clear c6 z6 HB2 HV2 HV
      generalize World.setCell w2 _ _ = W2 at *
      have HBW2 : Hid (Below w.heap.size w W2) := HB.out.trans (HBX2.out.mono hsw)
      have x7 : W2.cell? ⟨wr.heap.size, 7, none⟩ = some (.slice ae el.len ce) := by rw [cell_of_heap' HP2.out]; rfl
      have EC1 := Lib.hid (EC.out _ HBW2.out)
      go_wp2_with fail
      refine EC1.out.mono ?_
      rintro e w3 ⟨v5, rfl, hv5, hb3⟩
      obtain ⟨a3, c3, rfl, q5, q6, -⟩ := id hv5
      have HB3 := Lib.hid hb3
      have HV5 := Lib.hid hv5
      have hP2 : wr.heap.size < W2.heap.size := HZ2.out
      have c7 : w3.cell? ⟨wr.heap.size, 7, none⟩ = some (.slice ae el.len ce) := (HB3.out.cell (p := ⟨wr.heap.size, 7, none⟩) hP2).trans x7
      have z7 : w3.frozen? ⟨wr.heap.size, 7, none⟩ = false := frozen_cells ((HB3.out.block _ hP2).trans HP2.out) 7
      clear hb3 hv5 EC1 x7
      go_upto_region 9 with (fail)
      have HP3 : Hid ((w3.setCell ⟨wr.heap.size, 7, none⟩ (.slice a3 el.len c3)).heap[wr.heap.size]? = some (.cells (pCells h (.slice a1 h.names.length c1) (.slice a2 kd.len c2) (.slice a3 el.len c3)) 58 (0, 0))) := set_cells (j := 7) ((HB3.out.block _ hP2).trans HP2.out) _
      have HBX3 : Hid (Below wr.heap.size wr (w3.setCell ⟨wr.heap.size, 7, none⟩ (.slice a3 el.len c3))) := (HBX2.out.trans (HB3.out.mono (Nat.le_of_lt hP2))).setCell (p := ⟨wr.heap.size, 7, none⟩) (Nat.le_refl _) _
      have HVc : Hid (Strs (Nb (wr.heap.size + 1) (w3.setCell ⟨wr.heap.size, 7, none⟩ (.slice a3 el.len c3))) (w3.setCell ⟨wr.heap.size, 7, none⟩ (.slice a3 el.len c3)) (.slice a1 h.names.length c1) h.names) := (HVb.out.grow HB3.out).set (Nat.lt_succ_self _)
      have HKc : Hid (Parts (Nb (wr.heap.size + 1) (w3.setCell ⟨wr.heap.size, 7, none⟩ (.slice a3 el.len c3))) (w3.setCell ⟨wr.heap.size, 7, none⟩ (.slice a3 el.len c3)) (.slice a2 kd.len c2) kd) := (HK.out.grow HB3.out).set (Nat.lt_succ_self _)
      have HE3 : Hid (Parts (Nb (wr.heap.size + 1) (w3.setCell ⟨wr.heap.size, 7, none⟩ (.slice a3 el.len c3))) (w3.setCell ⟨wr.heap.size, 7, none⟩ (.slice a3 el.len c3)) (.slice a3 el.len c3) el) := by
        have := HV5.out.mono (ok' := Nb (wr.heap.size + 1) w3) (fun b hb => ⟨Nat.le_trans HZ2.out hb.1, hb.2⟩)
        exact this.set (Nat.lt_succ_self _)
      clear c7 z7 HB3 HV5 HVb HK
      generalize World.setCell w3 _ _ = W3 at *
      have y0 : W3.cell? ⟨wr.heap.size, 0, none⟩ = some (.int .u8 (h.kind : Nat)) := by rw [cell_of_heap' HP3.out]; rfl
      have y1 : W3.cell? ⟨wr.heap.size, 1, none⟩ = some (.int .i64 h.pos) := by rw [cell_of_heap' HP3.out]; rfl
      have y2 : W3.cell? ⟨wr.heap.size, 2, none⟩ = some (.string h.text) := by rw [cell_of_heap' HP3.out]; rfl
      have y3 : W3.cell? ⟨wr.heap.size, 3, none⟩ = some (.bool h.root) := by rw [cell_of_heap' HP3.out]; rfl
      have y4 : W3.cell? ⟨wr.heap.size, 4, none⟩ = some (.slice a1 h.names.length c1) := by rw [cell_of_heap' HP3.out]; rfl
      have y5 : W3.cell? ⟨wr.heap.size, 5, none⟩ = some (.string h.name) := by rw [cell_of_heap' HP3.out]; rfl
      have y6 : W3.cell? ⟨wr.heap.size, 6, none⟩ = some (.slice a2 kd.len c2) := by rw [cell_of_heap' HP3.out]; rfl
      have y7 : W3.cell? ⟨wr.heap.size, 7, none⟩ = some (.slice a3 el.len c3) := by rw [cell_of_heap' HP3.out]; rfl
      have HO3 : Hid (OutM w.heap.size W3 (.slice oa on oc) d) := HO.out.below HBX3.out
      have HB3 : Hid (Below w.heap.size w W3) := HB.out.trans (HBX3.out.mono hsw)
      have HNW : Hid (∀ W b, Nb (wr.heap.size + 1) W b → Nw w.heap.size W (.slice oa on oc) b) := fun W b hb => ⟨by have := hb.1; omega, hb.2, fun e => by
        obtain ⟨cs, ho, -⟩ := HO.out
        have := (own_new ho b e).2; have := hb.1; omega⟩
      have hdl : d.len ≤ 16777216 := by have := HDL.out; have := HKI.out; omega
      have hsz3 : w.heap.size ≤ W3.heap.size := HB3.out.size
      go_wp2_with (at_builtin; refine app_part rfl _ _ rfl w.heap.size (.slice oa on oc) d rfl (HO3.out.below ((Below.refl _ _).alloc (Nat.le_refl _) _)) h kd el _ _ _ W3.heap.size 1 rfl 58 (0, 0) (heap_alloc_new W3 _) ((HVc.out.grow ((Below.refl _ _).alloc (Nat.le_refl _) _)).mono (HNW.out _)) ((HKc.out.grow ((Below.refl _ _).alloc (Nat.le_refl _) _)).mono (HNW.out _)) ((HE3.out.grow ((Below.refl _ _).alloc (Nat.le_refl _) _)).mono (HNW.out _)) hdl (by simp; omega) ?_; intro v6 w4 hO4 hb4 hg4 hn4; obtain ⟨a6, n6, c6, rfl⟩ : ∃ a n c, v6 = .slice a n c := (by obtain ⟨cs, ho, -⟩ := hO4; obtain ⟨a, c, rfl, -⟩ := own_elems ho; exact ⟨_, _, _, rfl⟩); have HO4 := Lib.hid hO4; have HB4 : Hid (Below w.heap.size w w4) := (HB3.out.alloc hsz3 _).trans hb4; clear hO4 hb4 hg4 hn4)
      exact ⟨⟨k + 1, _, _, _, _, r, rfl, by go_num, by have := HKI.out; omega, HO4, by unfold Hid; rw [app_one]; exact HD.out, by unfold Hid; rw [app_len1, HDL.out], HRS, by omega, HSR2, HB4⟩, by simp [intOf]; omega⟩
theorem cp_all (n : Nat) : CpSaid n := by
  induction n with
  | zero => intro x h; exact absurd h (Nat.not_lt_zero _)
  | succ n ih => exact cp_step n ih
theorem copyParts_calls (x : Pt) (ok : Nat → Prop) (v : Value) (w : World) (hsm : x.sm) (hc : x.cnt ≤ 16777216) (hx : Parts ok w v x) : Calls Tryz.prog 23 #[v] w (CpP x w) :=
  cp_all (x.cnt + 1) x (Nat.lt_succ_self _) ok v w hsm hc hx
end Go.Proofs.YtdgcdjpjnhlihaaGreatDoor
set_option linter.unusedVariables false
set_option linter.unusedSimpArgs false
namespace Go.Proofs.YtdgcdjpjnhlihaaGreatDoor
open Go.RowKit Go.Shelf
attribute [local go_sem ↓] Go.wp_at_zero Go.wp_at_succ

theorem results_tmpl {fn : Func} {k : Tmp} {b : Nat} {x y : Value} {tmps : Array Value} {w : World} (h : fn.results = #[.cell k 25]) (hk : tmps.getD k undef = .pointer (some ⟨b, 0, none⟩)) (hb : w.heap[b]? = some (.cells #[x, y] 25 (0, 0))) :
    (results fn tmps).run Tryz.prog w = .ok (.agg #[x, y]) w := by
  have c := fun j => cell_of_heap' hb j
  have c0 : w.cell? ⟨b, 0, none⟩ = some x := c 0
  have c1 : w.cell? ⟨b, 1, none⟩ = some y := c 1
  have hk' : tmps[k]?.getD undef = .pointer (some ⟨b, 0, none⟩) := by rw [← hk]; simp
  clear c hb hk
  simp [results, h, hk', go_sem, c0, c1]
def CpTP (t : Tm) (w : World) (e : Ending) (w' : World) : Prop := ∃ vm vd, e = .returned (.agg #[vm, vd]) ∧ Parts (Nb w.heap.size w') w' vm t.main ∧ Defs (Nb w.heap.size w') w' vd t.defs ∧ Below w.heap.size w w'
/-- The copy that is being made: its block, what has been copied. -/
structure CpIn (C : Nat) (w : World) (q : Nat) (vm vd : Value) (m : Pt) (l : List Df) : Prop where
  blk : w.heap[q]? = some (.cells #[vm, vd] 25 (0, 0))
  main : Parts (Nw C w vd) w vm m
  defs : OutD C w vd l
theorem own_lt_d {C : Nat} {w : World} {vd : Value} {l : List Df} (h : OutD C w vd l) : ∀ g, vd.ownBlock = some g → C ≤ g ∧ g < w.heap.size := by
  obtain ⟨cs, ho, -⟩ := h
  exact own_new ho
theorem OutD.set {C q j : Nat} {w : World} {v u : Value} {l : List Df} (h : OutD C w v l) (hq : q < C) : OutD C (w.setCell ⟨q, j, none⟩ u) v l := by
  obtain ⟨cs, h1, h2⟩ := h
  refine ⟨cs, own_kept h1 (fun g hg => Below.heap_setCell _ _ _ _ (fun e => by have e2 : g = q := e; have := (own_new h1 g hg).1; omega)), ?_⟩
  exact (h2.kept (fun b k => Below.heap_setCell _ _ _ _ (fun e => by have e2 : b = q := e; have := k.1; omega))).mono (fun b k => ⟨k.1, by simp [World.setCell]; exact k.2.1, k.2.2⟩) _ _
theorem Parts.setN {C q j : Nat} {w : World} {v0 v u : Value} {t : Pt} (h : Parts (Nw C w v0) w v t) (hq : q < C) : Parts (Nw C (w.setCell ⟨q, j, none⟩ u) v0) (w.setCell ⟨q, j, none⟩ u) v t :=
  (h.kept (fun b k => Below.heap_setCell _ _ _ _ (fun e => by have e2 : b = q := e; have := k.1; omega))).mono (fun b k => ⟨k.1, by simp [World.setCell]; exact k.2.1, k.2.2⟩)
theorem Parts.growN {C : Nat} {w w' : World} {v0 v : Value} {t : Pt} (h : Parts (Nw C w v0) w v t) (hb : Below w.heap.size w w') : Parts (Nw C w' v0) w' v t :=
  (h.kept (fun b k => hb.block b k.2.1)).mono (fun b k => ⟨k.1, Nat.lt_of_lt_of_le k.2.1 hb.size, k.2.2⟩)
set_option maxRecDepth 100000 in
set_option maxHeartbeats 40000000 in
theorem copyTemplate_calls (t : Tm) (hz : TmZ t) (ok ok' : Nat → Prop) (vm vd : Value) (w : World) (hp : Parts ok w vm t.main) (hd : Defs ok' w vd t.defs) :
    Calls Tryz.prog 10 #[.agg #[vm, vd]] w (CpTP t w) := by
  obtain ⟨main, defs⟩ := t
  obtain ⟨z1, z2, z3, z4, -⟩ := hz
  dsimp only at z1 z2 z3 z4 hp hd
  have MC : Hid (∀ W, Below w.heap.size w W → Calls Tryz.prog 23 #[vm] W (CpP main W)) := fun W hW =>
    copyParts_calls main (fun b => ok b ∧ b < w.heap.size) vm W z1 (by omega) (hp.lt.kept (fun b hb => hW.block b hb.2))
  obtain ⟨am, cm, rfl, -⟩ := hp
  obtain ⟨a, c, rfl, h1, h2, h3⟩ := hd.lt
  have H3 := Lib.hid h3
  have HZ2 := Lib.hid z2
  have HSU := Lib.hid z3
  have HB0 : Hid (Below w.heap.size w (((w.alloc (.cells #[.slice am main.len cm, .slice a defs.length c] 25)).alloc (.cells #[.slice none 0 0, .slice none 0 0] 25)).alloc (.cells #[.slice none 0 0, .slice none 0 0] 25))) := (((Below.refl _ w).alloc (Nat.le_refl _) _).alloc (by simp) _).alloc (by simp; omega) _
  have HT0 : Hid ((((w.alloc (.cells #[.slice am main.len cm, .slice a defs.length c] 25)).alloc (.cells #[.slice none 0 0, .slice none 0 0] 25)).alloc (.cells #[.slice none 0 0, .slice none 0 0] 25)).heap[w.heap.size]? = some (.cells #[.slice am main.len cm, .slice a defs.length c] 25 (0, 0))) := (Below.heap_alloc _ _ _ (by simp; omega)).trans ((Below.heap_alloc _ _ _ (by simp)).trans (heap_alloc_new w _))
  have HT1 : Hid ((((w.alloc (.cells #[.slice am main.len cm, .slice a defs.length c] 25)).alloc (.cells #[.slice none 0 0, .slice none 0 0] 25)).alloc (.cells #[.slice none 0 0, .slice none 0 0] 25)).heap[w.heap.size + 1]? = some (.cells #[.slice none 0 0, .slice none 0 0] 25 (0, 0))) := by
    refine (Below.heap_alloc _ _ _ (by simp)).trans ?_
    have := heap_alloc_new (w.alloc (.cells #[.slice am main.len cm, .slice a defs.length c] 25)) (.cells #[.slice none 0 0, .slice none 0 0] 25)
    rwa [show (w.alloc (.cells #[.slice am main.len cm, .slice a defs.length c] 25)).heap.size = w.heap.size + 1 by simp] at this
  have HT2 : Hid ((((w.alloc (.cells #[.slice am main.len cm, .slice a defs.length c] 25)).alloc (.cells #[.slice none 0 0, .slice none 0 0] 25)).alloc (.cells #[.slice none 0 0, .slice none 0 0] 25)).heap[w.heap.size + 2]? = some (.cells #[.slice none 0 0, .slice none 0 0] 25 (0, 0))) := by
    have := heap_alloc_new ((w.alloc (.cells #[.slice am main.len cm, .slice a defs.length c] 25)).alloc (.cells #[.slice none 0 0, .slice none 0 0] 25)) (.cells #[.slice none 0 0, .slice none 0 0] 25)
    rwa [show ((w.alloc (.cells #[.slice am main.len cm, .slice a defs.length c] 25)).alloc (.cells #[.slice none 0 0, .slice none 0 0] 25)).heap.size = w.heap.size + 2 by simp] at this
  have HS0 : Hid ((((w.alloc (.cells #[.slice am main.len cm, .slice a defs.length c] 25)).alloc (.cells #[.slice none 0 0, .slice none 0 0] 25)).alloc (.cells #[.slice none 0 0, .slice none 0 0] 25)).heap.size = w.heap.size + 3) := by unfold Hid; simp
  clear h3 h1 h2 z1 z2 z3 hd
  go_enter Tryz.func10, Tryz.ntmps10
  go_upto_region 2 with (fail)
  generalize hWW : World.alloc (World.alloc (World.alloc w _) _) _ = W0 at *
  clear hWW
  have x0 : W0.cell? ⟨w.heap.size, 0, none⟩ = some (.slice am main.len cm) := by rw [cell_of_heap' HT0.out]; rfl
  have MC1 := Lib.hid (MC.out _ HB0.out)
  go_wp2_with fail
  refine MC1.out.mono ?_
  rintro e w1 ⟨v1, rfl, hv1, hb1⟩
  obtain ⟨a1, c1, rfl, q1, q2, -⟩ := id hv1
  have hs : w.heap.size + 2 < W0.heap.size := by have := HS0.out; omega
  have c0 : w1.cell? ⟨w.heap.size + 2, 0, none⟩ = some (.slice none 0 0) := by rw [cell_of_heap' ((hb1.block _ hs).trans HT2.out)]; rfl
  have z0 : w1.frozen? ⟨w.heap.size + 2, 0, none⟩ = false := frozen_cells ((hb1.block _ hs).trans HT2.out) 0
  have HB1 := Lib.hid hb1
  have HV1 := Lib.hid hv1
  clear hb1 hv1 MC1 x0
  go_upto_region 3 with (fail)
  have HI0 : Hid (CpIn (w.heap.size + 3) (w1.setCell ⟨w.heap.size + 2, 0, none⟩ (.slice a1 main.len c1)) (w.heap.size + 2) (.slice a1 main.len c1) (.slice none 0 0) main []) := by
    refine ⟨set_cells (j := 0) ((HB1.out.block _ hs).trans HT2.out) _, ?_, OutD.nil _ _⟩
    have := HV1.out
    rw [HS0.out] at this
    exact (this.set (Nat.lt_succ_self _)).mono (fun b hb => ⟨hb.1, hb.2, by intro e; cases e⟩)
  have HBX : Hid (Below (w.heap.size + 2) W0 (w1.setCell ⟨w.heap.size + 2, 0, none⟩ (.slice a1 main.len c1))) := (HB1.out.mono (Nat.le_of_lt hs)).setCell (p := ⟨w.heap.size + 2, 0, none⟩) (Nat.le_refl _) _
  have HSX : Hid (w.heap.size + 3 ≤ (w1.setCell ⟨w.heap.size + 2, 0, none⟩ (.slice a1 main.len c1)).heap.size) := by unfold Hid; simp [World.setCell]; have := HB1.out.size; omega
  clear c0 z0 HB1 HV1
  generalize World.setCell w1 _ _ = W1 at *
  go_wp2_with fail
  go_loopw [4] (fun i wr => ∃ (k : Nat) (vd' : Value), i = .int .i64 (k : Nat) ∧ k ≤ defs.length ∧ Hid (CpIn (w.heap.size + 3) wr (w.heap.size + 2) (.slice a1 main.len c1) vd' main (defs.take k)) ∧ Hid (Below (w.heap.size + 2) W0 wr) ∧ Hid (w.heap.size + 3 ≤ wr.heap.size)) (fun i _ => defs.length - (intOf i).toNat)
  case atStart => exact ⟨0, _, rfl, Nat.zero_le _, HI0, HBX, HSX⟩
  case round =>
    obtain ⟨k, vd', rfl, hk, HI, HB, HSZ⟩ := hrel
    have HBW : Hid (Below w.heap.size w wr) := HB0.out.trans (HB.out.mono (by omega))
    have t1 : wr.cell? ⟨w.heap.size, 1, none⟩ = some (.slice a defs.length c) := by rw [cell_of_heap' ((HB.out.block _ (by omega)).trans HT0.out)]; rfl
    have hsz : w.heap.size + 3 ≤ wr.heap.size := HSZ.out
    by_cases hlt : k < defs.length
    · have hlt' : (k : Int) < (defs.length : Int) := by omega
      have hk0 : (0 : Int) ≤ (k : Int) := by omega
      obtain ⟨d, hdk⟩ : ∃ d, defs[k]? = some d := ⟨_, List.getElem?_eq_getElem hlt⟩
      obtain ⟨b, o, rfl, hb, hrow⟩ := H3.out (by intro e; rw [e] at hlt; simp at hlt)
      obtain ⟨g0, g1, v, g2, hpd⟩ := DRow.at _ _ _ _ _ hdk (hrow.kept (fun b hb => HBW.out.block b hb.2) _ _ _ hb)
      have hdm : d ∈ defs := List.mem_of_getElem? hdk
      have hcd := sum_mem hdm
      have KC : Hid (∀ W, Below wr.heap.size wr W → Calls Tryz.prog 23 #[v] W (CpP d.kids W)) := fun W hW =>
        copyParts_calls d.kids (fun b => ok' b ∧ b < w.heap.size) v W (HZ2.out d hdm).2 (by have := HSU.out; omega) (hpd.kept (fun b hb => hW.block b (by have := hb.2; omega)))
      have HDT : Hid (defs.take (k + 1) = defs.take k ++ [d]) := by
        unfold Hid
        rw [List.take_succ_eq_append_getElem (by omega)]
        congr 2
        exact (List.getElem?_eq_some_iff.1 hdk).2
      have HDL : Hid ((defs.take k).length = k) := by unfold Hid; rw [List.length_take]; omega
      obtain ⟨av, cv, rfl, -⟩ := hpd
      have hbl : b < wr.heap.size := by have := hb.2; omega
      have HA : Hid (Below wr.heap.size wr (wr.alloc (.cells #[.string d.name, .int .i64 d.pos, .slice av d.kids.len cv] 61))) := (Below.refl _ wr).alloc (Nat.le_refl _) _
      have HT : Hid ((wr.alloc (.cells #[.string d.name, .int .i64 d.pos, .slice av d.kids.len cv] 61)).heap[wr.heap.size]? = some (.cells #[.string d.name, .int .i64 d.pos, .slice av d.kids.len cv] 61 (0, 0))) := heap_alloc_new wr _
      have HS : Hid ((wr.alloc (.cells #[.string d.name, .int .i64 d.pos, .slice av d.kids.len cv] 61)).heap.size = wr.heap.size + 1) := by unfold Hid; simp
      clear hdk hrow hdm hlt hcd
      go_upto_region 7 with (fail)
      generalize hWW : World.alloc wr _ = W2 at *
      clear hWW g0 g1 g2 t1
      have x2 : W2.cell? ⟨wr.heap.size, 2, none⟩ = some (.slice av d.kids.len cv) := by rw [cell_of_heap' HT.out]; rfl
      have KC1 := Lib.hid (KC.out _ HA.out)
      go_wp2_with fail
      refine KC1.out.mono ?_
      rintro e w3 ⟨v3, rfl, hv3, hb3⟩
      obtain ⟨a3, c3, rfl, q3, q4, -⟩ := id hv3
      have hs2 : wr.heap.size < W2.heap.size := by have := HS.out; omega
      have c2 : w3.cell? ⟨wr.heap.size, 2, none⟩ = some (.slice av d.kids.len cv) := (hb3.cell (p := ⟨wr.heap.size, 2, none⟩) hs2).trans x2
      have zz2 : w3.frozen? ⟨wr.heap.size, 2, none⟩ = false := frozen_cells ((hb3.block _ hs2).trans HT.out) 2
      have HB3 := Lib.hid hb3
      have HV3 := Lib.hid hv3
      clear hb3 hv3 KC1 x2
      go_upto_region 8 with (fail)
      have HP3 : Hid ((w3.setCell ⟨wr.heap.size, 2, none⟩ (.slice a3 d.kids.len c3)).heap[wr.heap.size]? = some (.cells #[.string d.name, .int .i64 d.pos, .slice a3 d.kids.len c3] 61 (0, 0))) := set_cells (j := 2) ((HB3.out.block _ hs2).trans HT.out) _
      have HBX3 : Hid (Below wr.heap.size wr (w3.setCell ⟨wr.heap.size, 2, none⟩ (.slice a3 d.kids.len c3))) := (HA.out.trans (HB3.out.mono (Nat.le_of_lt hs2))).setCell (p := ⟨wr.heap.size, 2, none⟩) (Nat.le_refl _) _
      have HK3 : Hid (Parts (Nb (wr.heap.size + 1) (w3.setCell ⟨wr.heap.size, 2, none⟩ (.slice a3 d.kids.len c3))) (w3.setCell ⟨wr.heap.size, 2, none⟩ (.slice a3 d.kids.len c3)) (.slice a3 d.kids.len c3) d.kids) := by
        have := HV3.out; rw [HS.out] at this
        exact this.set (Nat.lt_succ_self _)
      clear c2 zz2 HB3 HV3
      generalize World.setCell w3 _ _ = W3 at *
      obtain ⟨i1, i2, i3⟩ := HI.out
      have HI1 : Hid (W3.heap[w.heap.size + 2]? = some (.cells #[.slice a1 main.len c1, vd'] 25 (0, 0))) := (HBX3.out.block _ (by omega)).trans i1
      have HI2 : Hid (Parts (Nw (w.heap.size + 3) W3 vd') W3 (.slice a1 main.len c1) main) := (i2.kept (fun b hb => HBX3.out.block b hb.2.1)).mono (fun b hb => ⟨hb.1, Nat.lt_of_lt_of_le hb.2.1 HBX3.out.size, hb.2.2⟩)
      have HI3 : Hid (OutD (w.heap.size + 3) W3 vd' (defs.take k)) := i3.below HBX3.out
      have HOL : Hid (∀ g, vd'.ownBlock = some g → w.heap.size + 3 ≤ g ∧ g < wr.heap.size) := own_lt_d i3
      have y1 : W3.cell? ⟨w.heap.size + 2, 1, none⟩ = some vd' := by rw [cell_of_heap' HI1.out]; rfl
      have y2 : W3.cell? ⟨wr.heap.size, 0, none⟩ = some (.string d.name) := by rw [cell_of_heap' HP3.out]; rfl
      have y3 : W3.cell? ⟨wr.heap.size, 1, none⟩ = some (.int .i64 d.pos) := by rw [cell_of_heap' HP3.out]; rfl
      have y4 : W3.cell? ⟨wr.heap.size, 2, none⟩ = some (.slice a3 d.kids.len c3) := by rw [cell_of_heap' HP3.out]; rfl
      have hsz3 : wr.heap.size + 1 ≤ W3.heap.size := by have := lt_of_block HP3.out; omega
      have hdl : (defs.take k).length ≤ 16777216 := by have := HDL.out; omega
      have HNW : Hid (∀ W b, Nb (wr.heap.size + 1) W b → Nw (w.heap.size + 3) W vd' b) := fun W b hb => ⟨by have := hb.1; omega, hb.2, fun e => by have := (HOL.out b e).2; have := hb.1; omega⟩
      clear i1 i2 i3
      go_upto_region 5 with (at_builtin; refine app_def rfl _ _ rfl (w.heap.size + 3) vd' (defs.take k) rfl (HI3.out.below ((Below.refl _ _).alloc (Nat.le_refl _) _)) d _ W3.heap.size 1 rfl 61 (0, 0) (heap_alloc_new W3 _) ((HK3.out.grow ((Below.refl _ _).alloc (Nat.le_refl _) _)).mono (HNW.out _)) hdl (by simp; omega) ?_; intro v6 w4 hO4 hb4 hg4 hn4; obtain ⟨a6, n6, c6, rfl⟩ : ∃ a n c, v6 = .slice a n c := (by obtain ⟨cs, ho, -⟩ := hO4; obtain ⟨a, c, rfl, -⟩ := own_elems ho; exact ⟨_, _, _, rfl⟩); have HO4 := Lib.hid hO4; have HB4 := Lib.hid hb4; have HN4 := Lib.hid hn4; have HQ4 : Hid (w4.heap[w.heap.size + 2]? = some (.cells #[.slice a1 main.len c1, vd'] 25 (0, 0))) := (hb4.block _ (by omega)).trans ((Below.heap_alloc _ _ _ (by omega)).trans HI1.out); have c7 : w4.cell? ⟨w.heap.size + 2, 1, none⟩ = some vd' := (by rw [cell_of_heap' HQ4.out]; rfl); have z7 : w4.frozen? ⟨w.heap.size + 2, 1, none⟩ = false := frozen_cells HQ4.out 1; clear hO4 hb4 hg4 hn4)
      have HIN : Hid (CpIn (w.heap.size + 3) (w4.setCell ⟨w.heap.size + 2, 1, none⟩ (.slice a6 n6 c6)) (w.heap.size + 2) (.slice a1 main.len c1) (.slice a6 n6 c6) main (defs.take (k + 1))) := by
        refine ⟨set_cells (j := 1) HQ4.out _, ?_, ?_⟩
        · exact (((HI2.out.growN ((Below.refl W3.heap.size W3).alloc (Nat.le_refl _) _)).kept HN4.out.1).mono HN4.out.2).setN (by omega)
        · rw [HDT.out]; exact HO4.out.set (by omega)
      have HBN : Hid (Below (w.heap.size + 2) W0 (w4.setCell ⟨w.heap.size + 2, 1, none⟩ (.slice a6 n6 c6))) :=
        ((HB.out.trans (HBX3.out.mono (by omega))).trans ((((Below.refl W3.heap.size W3).alloc (Nat.le_refl _) _).mono (by omega)).trans (HB4.out.mono (by omega)))).setCell (p := ⟨w.heap.size + 2, 1, none⟩) (Nat.le_refl _) _
      have HSN : Hid (w.heap.size + 3 ≤ (w4.setCell ⟨w.heap.size + 2, 1, none⟩ (.slice a6 n6 c6)).heap.size) := by
        unfold Hid; simp [World.setCell]; have := HB4.out.size; simp at this; omega
      clear c7 z7 y1 y2 y3 y4
      generalize World.setCell w4 _ _ = W5 at *
      go_wp2_with fail
      exact ⟨⟨k + 1, _, by go_num, by omega, HIN, HBN, HSN⟩, by simp [intOf]; omega⟩
    · have hge : ¬ (k : Int) < (defs.length : Int) := by omega
      have HKE : Hid (defs.take k = defs) := List.take_of_length_le (by omega)
      obtain ⟨i1, i2, i3⟩ := HI.out
      rw [HKE.out] at i3
      obtain ⟨ad, nd, cd, rfl⟩ : ∃ a n c, vd' = .slice a n c := by
        obtain ⟨cs, ho, -⟩ := id i3
        obtain ⟨a, c, rfl, -⟩ := own_elems ho
        exact ⟨_, _, _, rfl⟩
      have HR : Hid (wr.heap[w.heap.size + 1]? = some (.cells #[.slice none 0 0, .slice none 0 0] 25 (0, 0))) := (HB.out.block _ (by omega)).trans HT1.out
      have y0 : wr.cell? ⟨w.heap.size + 2, 0, none⟩ = some (.slice a1 main.len c1) := by rw [cell_of_heap' i1]; rfl
      have y1 : wr.cell? ⟨w.heap.size + 2, 1, none⟩ = some (.slice ad nd cd) := by rw [cell_of_heap' i1]; rfl
      have r0 : wr.cell? ⟨w.heap.size + 1, 0, none⟩ = some (.slice none 0 0) := by rw [cell_of_heap' HR.out]; rfl
      have r1 : wr.cell? ⟨w.heap.size + 1, 1, none⟩ = some (.slice none 0 0) := by rw [cell_of_heap' HR.out]; rfl
      have rz : ∀ j, wr.frozen? ⟨w.heap.size + 1, j, none⟩ = false := frozen_cells HR.out
      have HM := Lib.hid i2
      have HDF := Lib.hid i3
      clear i1 i2 i3
      go_wp2_with fail
      refine bodyPost_ret (results_tmpl rfl rfl (two_cells HR.out rfl _ _)) rfl ?_
      refine ⟨_, _, rfl, ?_, ?_, (HBW.out.setCell (p := ⟨w.heap.size + 1, 0, none⟩) (Nat.le_succ _) _).setCell (p := ⟨w.heap.size + 1, 1, none⟩) (Nat.le_succ _) _⟩
      · exact ((HM.out.setN (j := 0) (q := w.heap.size + 1) (by omega)).setN (j := 1) (q := w.heap.size + 1) (by omega)).mono (fun b h => ⟨by have := h.1; omega, h.2.1⟩)
      · exact (((HDF.out.set (j := 0) (q := w.heap.size + 1) (by omega)).set (j := 1) (q := w.heap.size + 1) (by omega)).defs).mono (fun b h => ⟨by have := h.1; omega, h.2⟩)
end Go.Proofs.YtdgcdjpjnhlihaaGreatDoor
