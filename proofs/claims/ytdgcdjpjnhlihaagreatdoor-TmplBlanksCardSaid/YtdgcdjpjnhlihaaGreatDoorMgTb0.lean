/-
  Plain laws: two sources that part in the blanks within actions alone are read alike, but for places. No program in sight, no condition.
-/
/-
  Plain laws: blanks that are put into the actions of what is written of a template change nothing but places. No program in sight, no condition.
-/
/-
  Plain laws: what blanks make of a template's source is valid, and is read as that template, but for places. No condition.
-/
import Derived.Test.YtdgcdjpjnhlihaaGreatDoorMgTs0
import Derived.Test.YtdgcdjpjnhlihaaGreatDoorMgTrq
set_option linter.unusedSimpArgs false
namespace Go.Proofs.YtdgcdjpjnhlihaaGreatDoor

/-! ### Places do not turn what is read -/
theorem Hd.era_era (h : Hd) : h.era.era = h.era := rfl
theorem Pt.era_era (t : Pt) : t.era.era = t.era := by
  induction t with
  | nil => rfl
  | cons h k e r ihk ihe ihr => simp [Pt.era, ihk, ihe, ihr, Hd.era_era]
theorem Df.era_era (d : Df) : d.era.era = d.era := by simp [Df.era, Pt.era_era]
def Fr.era (f : Fr) : Fr := { f with pos := 0, fst := f.fst.era, kids := f.kids.era }
theorem Fr.era_era (f : Fr) : f.era.era = f.era := by simp [Fr.era, Pt.era_era]
def St.era (s : St) : St := ⟨s.top.era, s.rest.map Fr.era, s.defs.map Df.era, s.many, s.calls.map fun c => (c.1, 0)⟩
theorem map_idem {α : Type} (f : α → α) (h : ∀ x, f (f x) = f x) (l : List α) : (l.map f).map f = l.map f := by
  rw [List.map_map]; exact List.map_congr_left (fun x _ => h x)
theorem St.era_era (s : St) : s.era.era = s.era := by
  simp only [St.era, Fr.era_era, map_idem _ Fr.era_era, map_idem _ Df.era_era]
  congr 1
  rw [List.map_map]; rfl
def eraR : Rs St → Rs St
  | .ok s => .ok s.era
  | .err e _ => .err e 0
theorem hasDef_era (l : List Df) (n : By) : hasDef (l.map Df.era) n = hasDef l n := hasDef_map _ _ (map_idem _ Df.era_era l) n
theorem eraR_bind (x y : Rs St) (f g : St → Rs St) (h : eraR x = eraR y) (hf : ∀ s s', s.era = s'.era → eraR (f s) = eraR (g s')) : eraR (x.bind f) = eraR (y.bind g) := by
  cases x with
  | ok s =>
    cases y with
    | ok s' => exact hf s s' (by simpa [eraR] using h)
    | err e i => simp [eraR] at h
  | err e i =>
    cases y with
    | ok s' => simp [eraR] at h
    | err e' i' => simpa [eraR, Rs.bind] using h
/-- What era keeps. -/
structure Alike (s s' : St) : Prop where
  top : s.top.era = s'.top.era
  rest : s.rest.map Fr.era = s'.rest.map Fr.era
  defs : s.defs.map Df.era = s'.defs.map Df.era
  many : s.many = s'.many
  calls : s.calls.map (fun c => (c.1, 0)) = s'.calls.map (fun c => ((c.1, 0) : By × Nat))
theorem alike {s s' : St} (h : s.era = s'.era) : Alike s s' := by
  unfold St.era at h
  injection h with h1 h2 h3 h4 h5
  exact ⟨h1, h2, h3, h4, h5⟩
theorem Alike.era {s s' : St} (h : Alike s s') : s.era = s'.era := by
  unfold St.era; rw [h.top, h.rest, h.defs, h.many, h.calls]
structure FrA (f f' : Fr) : Prop where
  kind : f.kind = f'.kind
  root : f.root = f'.root
  names : f.names = f'.names
  name : f.name = f'.name
  els : f.els = f'.els
  fst : f.fst.era = f'.fst.era
  kids : f.kids.era = f'.kids.era
theorem frA {f f' : Fr} (h : f.era = f'.era) : FrA f f' := by
  unfold Fr.era at h
  injection h with h1 h2 h3 h4 h5 h6 h7 h8
  exact ⟨h1, h3, h4, h5, h6, h7, h8⟩
theorem FrA.era {f f' : Fr} (h : FrA f f') : f.era = f'.era := by
  obtain ⟨h1, h2, h3, h4, h5, h6, h7⟩ := h
  unfold Fr.era; rw [h1, h2, h3, h4, h5, h6, h7]
theorem one_era (h : Hd) (k e : Pt) : (Pt.one h k e).era = Pt.one h.era k.era e.era := rfl
theorem hd_era_congr {h h' : Hd} (hh : h.era = h'.era) {k k' e e' : Pt} (hk : k.era = k'.era) (he : e.era = e'.era) : (Pt.one h k e).era = (Pt.one h' k' e').era := by rw [one_era, one_era, hh, hk, he]
theorem put_era {s s' : St} (h : s.era = s'.era) {x x' : Hd} (hx : x.era = x'.era) {k k' e e' : Pt} (hk : k.era = k'.era) (he : e.era = e'.era) : (s.put x k e).era = (s'.put x' k' e').era := by
  have a := alike h
  have t := frA a.top
  refine Alike.era ⟨FrA.era ⟨t.kind, t.root, t.names, t.name, t.els, t.fst, ?_⟩, a.rest, a.defs, a.many, a.calls⟩
  show (s.top.kids.app (.one x k e)).era = (s'.top.kids.app (.one x' k' e')).era
  rw [Pt.era_app, Pt.era_app, t.kids, hd_era_congr hx hk he]
theorem count_era {s s' : St} (h : s.era = s'.era) (i i' : Nat) : eraR (s.count i) = eraR (s'.count i') := by
  have a := alike h
  unfold St.count
  rw [← a.many]
  split
  · rfl
  · show Rs.ok _ = Rs.ok _
    congr 1
    exact Alike.era ⟨a.top, a.rest, a.defs, rfl, a.calls⟩
theorem add_era {s s' : St} (h : s.era = s'.era) (i i' : Nat) {x x' : Hd} (hx : x.era = x'.era) : eraR (s.add x i) = eraR (s'.add x' i') := by
  unfold St.add
  refine eraR_bind _ _ _ _ (count_era h i i') (fun s s' h => ?_)
  show Rs.ok _ = Rs.ok _
  rw [put_era h hx rfl rfl]
theorem begin_era {s s' : St} (h : s.era = s'.era) (i i' : Nat) {f f' : Fr} (hf : f.era = f'.era) : eraR (s.begin f i) = eraR (s'.begin f' i') := by
  have a := alike h
  have hl : s.rest.length = s'.rest.length := by have := congrArg List.length a.rest; simpa using this
  unfold St.begin
  rw [← hl]
  split
  · rfl
  · show Rs.ok _ = Rs.ok _
    congr 1
    exact Alike.era ⟨hf, by simp [a.top, a.rest], a.defs, a.many, a.calls⟩
theorem rest_nil {s s' : St} (a : Alike s s') : s.rest = [] ↔ s'.rest = [] := by
  have := congrArg List.length a.rest
  simp only [List.length_map] at this
  rw [← List.length_eq_zero_iff, ← List.length_eq_zero_iff, this]
theorem elseA_era {s s' : St} (h : s.era = s'.era) (i i' : Nat) : eraR (s.elseA i) = eraR (s'.elseA i') := by
  have a := alike h
  have t := frA a.top
  unfold St.elseA
  by_cases hc : s.rest = [] ∨ s.top.kind = 6 ∨ s.top.els = true
  · rw [if_pos hc, if_pos (by rw [← rest_nil a, ← t.kind, ← t.els]; exact hc)]; rfl
  · rw [if_neg hc, if_neg (by rw [← rest_nil a, ← t.kind, ← t.els]; exact hc)]
    show Rs.ok _ = Rs.ok _
    congr 1
    exact Alike.era ⟨FrA.era ⟨t.kind, t.root, t.names, t.name, rfl, t.kids, rfl⟩, a.rest, a.defs, a.many, a.calls⟩
theorem endA_era {s s' : St} (h : s.era = s'.era) (i i' : Nat) : eraR (s.endA i) = eraR (s'.endA i') := by
  have a := alike h
  have t := frA a.top
  unfold St.endA
  have hr := a.rest
  cases h1 : s.rest with
  | nil =>
    rw [h1] at hr
    cases h2 : s'.rest with
    | nil => rfl
    | cons f r => rw [h2] at hr; simp at hr
  | cons f r =>
    rw [h1] at hr
    cases h2 : s'.rest with
    | nil => rw [h2] at hr; simp at hr
    | cons f' r' =>
      rw [h2] at hr
      simp only [List.map_cons, List.cons.injEq] at hr
      dsimp only
      by_cases hk : s.top.kind = 6
      · rw [if_pos hk, if_pos (t.kind.symm.trans hk)]
        show Rs.ok _ = Rs.ok _
        congr 1
        refine Alike.era (s := { s with top := f, rest := r, defs := s.defs ++ [⟨mkB s.top.name, s.top.pos, s.top.kids⟩] }) (s' := { s' with top := f', rest := r', defs := s'.defs ++ [⟨mkB s'.top.name, s'.top.pos, s'.top.kids⟩] }) ⟨hr.1, hr.2, ?_, a.many, a.calls⟩
        simp [a.defs, Df.era, t.name, t.kids]
      · rw [if_neg hk, if_neg (fun e => hk (t.kind.trans e))]
        show Rs.ok _ = Rs.ok _
        congr 1
        refine put_era (s := { s with top := f, rest := r }) (s' := { s' with top := f', rest := r' }) (Alike.era ⟨hr.1, hr.2, a.defs, a.many, a.calls⟩) ?_ ?_ ?_
        · simp [Hd.era, hdWay, t.kind, t.root, t.names]
        · rw [t.els]; split
          · exact t.fst
          · exact t.kids
        · rw [t.els]; split
          · exact t.kids
          · rfl
theorem act1_era (w : By) {s s' : St} (h : s.era = s'.era) (i i' : Nat) : eraR (act1 w i s) = eraR (act1 w i' s') := by
  unfold act1
  split
  · exact endA_era h i i'
  · split
    · exact elseA_era h i i'
    · split
      · rfl
      · exact add_era h i i' rfl
theorem act2_era (w x : By) {s s' : St} (h : s.era = s'.era) (i i' : Nat) : eraR (act2 w x i s) = eraR (act2 w x i' s') := by
  have a := alike h
  unfold act2
  split
  · split
    · rfl
    · exact eraR_bind _ _ _ _ (begin_era h i i' rfl) (fun s s' h => count_era h i i')
  · split
    · by_cases hc : nameOk x = false ∨ s.rest ≠ []
      · rw [if_pos hc, if_pos (hc.imp id (fun e e2 => e ((rest_nil a).2 e2)))]; rfl
      · rw [if_neg hc, if_neg (fun e : nameOk x = false ∨ s'.rest ≠ [] => hc (e.imp id (fun e e2 => e ((rest_nil a).1 e2)))), hasDef_map _ _ a.defs]
        split
        · rfl
        · exact begin_era h i i' rfl
    · rfl
theorem act3_era (w x y : By) {s s' : St} (h : s.era = s'.era) (i i' : Nat) : eraR (act3 w x y i s) = eraR (act3 w x y i' s') := by
  unfold act3
  split
  · split
    · rfl
    · split
      · rfl
      · refine eraR_bind _ _ _ _ (count_era h i i') (fun s s' h => ?_)
        show Rs.ok _ = Rs.ok _
        congr 1
        have a := alike h
        have e : (({ s with calls := s.calls ++ [(x, i)] } : St)).era = (({ s' with calls := s'.calls ++ [(x, i')] } : St)).era := Alike.era ⟨a.top, a.rest, a.defs, a.many, by simp [a.calls]⟩
        exact put_era e (x := hdCall i x _ _) (x' := hdCall i' x _ _) rfl rfl rfl
  · rfl
/-- Two actions of the same words. -/
def ActS (x y : By) : Prop := comment x = comment y ∧ wordsB x = wordsB y
theorem action_era {x y : By} (hxy : ActS x y) {s s' : St} (h : s.era = s'.era) (i i' : Nat) : eraR (action x i s) = eraR (action y i' s') := by
  unfold action
  rw [← hxy.1, ← hxy.2]
  split
  · show Rs.ok _ = Rs.ok _; rw [h]
  · split
    · exact act1_era _ h i i'
    · exact act2_era _ _ h i i'
    · exact act3_era _ _ _ h i i'
    · rfl
def TkS : Tk → Tk → Prop
  | .txt x, .txt y => x = y
  | .act x, .act y => ActS x y
  | _, _ => False
def TksS : List Tk → List Tk → Prop
  | [], [] => True
  | a :: l, b :: m => TkS a b ∧ TksS l m
  | _, _ => False
theorem runT_era : ∀ (l m : List Tk), TksS l m → ∀ (s s' : St), s.era = s'.era → ∀ i i', eraR (runT l i s) = eraR (runT m i' s') := by
  intro l
  induction l with
  | nil =>
    intro m hm s s' h i i'
    cases m with
    | nil => show Rs.ok _ = Rs.ok _; rw [h]
    | cons b m => exact hm.elim
  | cons a l ih =>
    intro m hm s s' h i i'
    cases m with
    | nil => cases a <;> exact hm.elim
    | cons b m =>
      obtain ⟨hab, hlm⟩ := hm
      cases a with
      | txt x =>
        cases b with
        | txt y =>
          obtain rfl : x = y := hab
          exact eraR_bind _ _ _ _ (add_era h i i' rfl) (fun s s' h => ih m hlm s s' h _ _)
        | act y => exact hab.elim
      | act x =>
        cases b with
        | txt y => exact hab.elim
        | act y => exact eraR_bind _ _ _ _ (action_era hab h i i') (fun s s' h => ih m hlm s s' h _ _)
theorem noneAt_era (defs defs' : List Df) (hd : defs.map Df.era = defs'.map Df.era) : ∀ (l l' : List (By × Nat)), l.map (fun c => (c.1, 0)) = l'.map (fun c => ((c.1, 0) : By × Nat)) → noneAt defs l = none → noneAt defs' l' = none := by
  intro l
  induction l with
  | nil =>
    intro l' h _
    cases l' with
    | nil => rfl
    | cons c l' => simp at h
  | cons c l ih =>
    intro l' h hn
    cases l' with
    | nil => simp at h
    | cons c' l' =>
      simp only [List.map_cons, List.cons.injEq, Prod.mk.injEq, and_true] at h
      unfold noneAt at hn ⊢
      split at hn
      · rename_i hx
        rw [if_pos (by rw [← hasDef_map _ _ hd, ← h.1]; exact hx)]
        exact ih l' h.2 hn
      · cases hn
theorem finish_era {s s' : St} (h : s.era = s'.era) (n n' : Nat) (u : Tm) (hu : finish n s = .ok u) : ∃ u', finish n' s' = .ok u' ∧ u'.era = u.era := by
  have a := alike h
  unfold finish at hu ⊢
  split at hu
  · cases hu
  · rename_i hr
    rw [if_neg (fun e => hr (fun e2 => e ((rest_nil a).1 e2)))]
    split at hu
    · cases hu
    · rename_i hn
      injection hu with hu
      subst hu
      rw [noneAt_era _ _ a.defs _ _ a.calls hn]
      refine ⟨_, rfl, ?_⟩
      unfold Tm.era
      dsimp only
      rw [(frA a.top).kids, a.defs]
/-- THE LAW OF BLANKS: texts and actions that part in blanks alone come to one template, but for places. -/
theorem parse_blanks (bad : By → Option Nat) (t : Tm) (h : t.check = 0) (m : List Tk) (hm : TksS t.toks m) (hg : goodT true m) (hl : (render m).length ≤ 16384) (hb : bad (render m) = none) : ∃ u, parseB bad (render m) = .ok u ∧ u.era = t.era := by
  obtain ⟨u, hu, he⟩ := runT_tm t h 0
  have hr := runT_era _ _ hm St.start St.start rfl 0 0
  cases hx : runT t.toks 0 St.start with
  | err e i => rw [hx] at hu; cases hu
  | ok s =>
    rw [hx] at hu hr
    cases hy : runT m 0 St.start with
    | err e i => rw [hy] at hr; cases hr
    | ok s' =>
      rw [hy] at hr
      injection hr with hr
      obtain ⟨u', hu', he'⟩ := finish_era hr 0 (render m).length u hu
      refine ⟨u', ?_, he'.trans he⟩
      unfold parseB
      rw [if_neg (by omega), hb]
      dsimp only
      rw [readF_render true m (render m).length 0 St.start hg (Nat.le_refl _), hy]
      exact hu'
end Go.Proofs.YtdgcdjpjnhlihaaGreatDoor
set_option linter.unusedSimpArgs false
namespace Go.Proofs.YtdgcdjpjnhlihaaGreatDoor

/-- The blanks of the k-th way. -/
def gapB (ways : By) (k : Nat) : By := if k < ways.length then (if (ways.getD k 0).toNat % 4 = 0 then [32] else if (ways.getD k 0).toNat % 4 = 1 then [10] else if (ways.getD k 0).toNat % 4 = 2 then [9, 32] else []) else []
def isCom (s : By) (i : Nat) : Bool := decide ((s.drop i).take 4 = [123, 123, 47, 42]) || (decide (2 ≤ i) && decide ((s.drop (i - 2)).take 2 = [42, 47]))
/-- What the statement makes of a source: none: it has closing brackets in a text. -/
def blankF (s ways : By) : Nat → Nat → Bool → Nat → By → Option By
  | 0, _, _, _, out => some out
  | f + 1, i, inn, k, out =>
    if s.length ≤ i then some out else
    if (!inn && decide ((s.drop i).take 2 = bra)) = true then blankF s ways f (i + 2) true (k + 1) (out ++ bra ++ (if isCom s i then [] else gapB ways k))
    else if (inn && decide ((s.drop i).take 2 = ket)) = true then blankF s ways f (i + 2) false k (out ++ (if isCom s i then [] else gapB ways k) ++ ket)
    else if (inn && decide (s.getD i 0 = 32)) = true then blankF s ways f (i + 1) inn k (out ++ 32 :: gapB ways k)
    else if (s.drop i).take 2 = ket then none
    else blankF s ways f (i + 1) inn k (out ++ [s.getD i 0])

/-! ### Words and blanks -/
def allBl (g : By) : Prop := ∀ x ∈ g, blank x = true
theorem gap_bl (ways : By) (k : Nat) : allBl (gapB ways k) := by
  unfold gapB
  repeat' split
  all_goals (intro x hx; simp at hx)
  · subst hx; decide
  · subst hx; decide
  · rcases hx with rfl | rfl <;> decide
theorem splitP_app (p : UInt8 → Bool) (b : UInt8) (hb : p b = true) (t : By) : ∀ s, splitP p (s ++ b :: t) = splitP p s ++ splitP p t := by
  intro s
  induction s with
  | nil => rw [List.nil_append, splitP.eq_2, if_pos hb]; simp [splitP]
  | cons x s ih =>
    rw [List.cons_append, splitP.eq_2, splitP.eq_2 p x s, ih]
    split
    · rfl
    · cases h : splitP p s with
      | nil => exact absurd h (splitP_ne p s)
      | cons y l => rfl
theorem words_app (b : UInt8) (hb : blank b = true) (s t : By) : wordsB (s ++ b :: t) = wordsB s ++ wordsB t := by
  unfold wordsB; rw [splitP_app _ _ hb, List.filter_append]
theorem words_nil : wordsB [] = [] := by simp [wordsB, splitP]
theorem words_bl (g : By) (h : allBl g) (y : By) : wordsB (g ++ y) = wordsB y := by
  induction g with
  | nil => rfl
  | cons b g ih =>
    have := words_app b (h b (by simp)) [] (g ++ y)
    rw [List.nil_append, words_nil, List.nil_append] at this
    rw [List.cons_append, this, ih (fun x hx => h x (List.mem_cons_of_mem _ hx))]
theorem words_bl2 (g : By) (h : allBl g) (y : By) : wordsB (y ++ g) = wordsB y := by
  cases g with
  | nil => rw [List.append_nil]
  | cons b g =>
    have := words_bl g (fun x hx => h x (List.mem_cons_of_mem _ hx)) []
    rw [List.append_nil, words_nil] at this
    rw [words_app b (h b (by simp)), this, List.append_nil]
def spread (g x : By) : By := x.flatMap fun c => if c = 32 then 32 :: g else [c]
theorem words_spread (g : By) (h : allBl g) : ∀ (x a : By), wordsB (a ++ spread g x) = wordsB (a ++ x) := by
  intro x
  induction x with
  | nil => intro a; rfl
  | cons c x ih =>
    intro a
    unfold spread
    rw [List.flatMap_cons]
    by_cases hc : c = 32
    · subst hc
      rw [if_pos rfl, List.cons_append, words_app 32 (by decide), words_app 32 (by decide), words_bl g h]
      have := ih []
      rw [List.nil_append, List.nil_append] at this
      unfold spread at this
      rw [this]
    · rw [if_neg hc]
      have := ih (a ++ [c])
      unfold spread at this
      rw [List.append_assoc, List.append_assoc] at this
      exact this
theorem spread_mem (g x : By) (h : allBl g) : ∀ c ∈ spread g x, c ∈ x ∨ blank c = true := by
  intro c hc
  unfold spread at hc
  rw [List.mem_flatMap] at hc
  obtain ⟨d, hd, hc⟩ := hc
  split at hc
  · rcases List.mem_cons.1 hc with rfl | hc
    · exact .inr (by decide)
    · exact .inr (h c hc)
  · obtain rfl : c = d := by simpa using hc
    exact .inl hd
theorem comment_no (y : By) (h : (47 : UInt8) ∉ y) : comment y = false := by
  cases y with
  | nil => rfl
  | cons c y => exact comment_head c y (fun e => h (by rw [e]; simp))
/-- What is written between brackets. -/
def ActW (x : By) : Prop := x = noteT ∨ ((47 : UInt8) ∉ x ∧ (125 : UInt8) ∉ x)
theorem act_spread (g g1 g2 x : By) (h : allBl g) (h1 : allBl g1) (h2 : allBl g2) (hx : (47 : UInt8) ∉ x ∧ (125 : UInt8) ∉ x) : ActS x (g1 ++ spread g x ++ g2) ∧ (125 : UInt8) ∉ g1 ++ spread g x ++ g2 := by
  have no : ∀ c : UInt8, blank c = false → c ∉ x → c ∉ g1 ++ spread g x ++ g2 := by
    intro c hc hcx hm
    simp only [List.mem_append] at hm
    rcases hm with (hm | hm) | hm
    · have := h1 c hm; rw [hc] at this; cases this
    · rcases spread_mem g x h c hm with hm | hm
      · exact hcx hm
      · rw [hc] at hm; cases hm
    · have := h2 c hm; rw [hc] at this; cases this
  refine ⟨⟨?_, ?_⟩, no 125 (by decide) hx.2⟩
  · rw [comment_no _ hx.1, comment_no _ (no 47 (by decide) hx.1)]
  · rw [words_bl2 g2 h2, words_bl g1 h1]
    have := words_spread g h x []
    rw [List.nil_append, List.nil_append] at this
    exact this.symm

/-! ### Texts, and what is within actions -/
def quiet : By → By → Prop
  | [], _ => True
  | c :: y, R => ¬ (c = 123 ∧ (y ++ R).head? = some 123) ∧ quiet y R
theorem quiet_of : ∀ (x R : By), cut2 123 x = none → (x.getLast? ≠ some 123 ∨ R = []) → quiet x R := by
  intro x
  induction x with
  | nil => intro R _ _; exact trivial
  | cons c x ih =>
    intro R h hl
    obtain ⟨h1, h2⟩ := cut2_none_cons _ _ _ h
    cases x with
    | nil =>
      refine ⟨fun ⟨e, e2⟩ => ?_, trivial⟩
      rcases hl with hl | hl
      · exact hl (by rw [e]; rfl)
      · rw [hl] at e2; simp at e2
    | cons d x =>
      refine ⟨fun e => h2 ⟨e.1, by simpa using e.2⟩, ih R h1 (hl.imp_left (fun e e2 => e (by rw [List.getLast?_cons_cons]; exact e2)))⟩
theorem at_len (P r : By) : (P ++ r).drop P.length = r := by simp
theorem getD_len (P r : By) (c : UInt8) : (P ++ c :: r).getD P.length 0 = c := by simp [List.getD]
theorem blank_txt (ways : By) (R : By) (k : Nat) : ∀ (y P out : By) (f : Nat), quiet y R → y.length ≤ f →
    blankF (P ++ (y ++ R)) ways f P.length false k out = none ∨ blankF (P ++ (y ++ R)) ways f P.length false k out = blankF (P ++ (y ++ R)) ways (f - y.length) (P.length + y.length) false k (out ++ y) := by
  intro y
  induction y with
  | nil => intro P out f _ _; right; simp
  | cons c y ih =>
    intro P out f hq hf
    cases f with
    | zero => simp at hf
    | succ f =>
      obtain ⟨h1, h2⟩ := hq
      have hb : ¬ (c :: (y ++ R)).take 2 = bra := by
        intro e
        apply h1
        cases hy : y ++ R with
        | nil => rw [hy] at e; simp [bra] at e
        | cons d r => rw [hy] at e; simp [bra] at e; exact ⟨e.1, by rw [← e.2]; rfl⟩
      have e1 : blankF (P ++ (c :: y ++ R)) ways (f + 1) P.length false k out = if (c :: (y ++ R)).take 2 = ket then none else blankF (P ++ (c :: y ++ R)) ways f (P.length + 1) false k (out ++ [c]) := by
        rw [blankF, if_neg (by simp)]
        simp only [List.cons_append, at_len, getD_len, hb, decide_false, Bool.and_false, Bool.false_and, Bool.false_eq_true, if_false]
      rw [e1]
      split
      · exact .inl rfl
      · have := ih (P ++ [c]) (out ++ [c]) f h2 (by simpa using hf)
        rw [show P ++ [c] ++ (y ++ R) = P ++ (c :: y ++ R) by simp, show (P ++ [c]).length = P.length + 1 by simp] at this
        rw [show f + 1 - (c :: y).length = f - y.length by simp, show P.length + (c :: y).length = P.length + 1 + y.length by simp; omega, show out ++ c :: y = out ++ [c] ++ y by simp]
        exact this
theorem blank_in (ways : By) (R : By) (k : Nat) : ∀ (y P out : By) (f : Nat), (125 : UInt8) ∉ y → y.length ≤ f →
    blankF (P ++ (y ++ R)) ways f P.length true k out = blankF (P ++ (y ++ R)) ways (f - y.length) (P.length + y.length) true k (out ++ spread (gapB ways k) y) := by
  intro y
  induction y with
  | nil => intro P out f _ _; simp [spread]
  | cons c y ih =>
    intro P out f hq hf
    cases f with
    | zero => simp at hf
    | succ f =>
      have hc : c ≠ 125 := fun e => hq (by rw [e]; simp)
      have hb : ¬ (c :: (y ++ R)).take 2 = ket := by
        intro e
        cases hy : y ++ R with
        | nil => rw [hy] at e; simp [ket] at e
        | cons d r => rw [hy] at e; simp [ket] at e; exact hc e.1
      have e1 : blankF (P ++ (c :: y ++ R)) ways (f + 1) P.length true k out = blankF (P ++ (c :: y ++ R)) ways f (P.length + 1) true k (out ++ (if c = 32 then 32 :: gapB ways k else [c])) := by
        rw [blankF, if_neg (by simp)]
        simp only [List.cons_append, at_len, getD_len, hb, decide_false, Bool.and_false, Bool.not_true, Bool.false_and, Bool.false_eq_true, if_false, Bool.true_and, decide_eq_true_eq]
        split <;> rfl
      rw [e1]
      have := ih (P ++ [c]) (out ++ (if c = 32 then 32 :: gapB ways k else [c])) f (fun h => hq (List.mem_cons_of_mem _ h)) (by simpa using hf)
      rw [show P ++ [c] ++ (y ++ R) = P ++ (c :: y ++ R) by simp, show (P ++ [c]).length = P.length + 1 by simp] at this
      rw [show f + 1 - (c :: y).length = f - y.length by simp, show P.length + (c :: y).length = P.length + 1 + y.length by simp; omega]
      rw [this]
      congr 1
      simp [spread]
theorem isCom_note (P R : By) : isCom (P ++ (bra ++ (noteT ++ (ket ++ R)))) P.length = true := by
  unfold isCom; rw [at_len]; simp [bra, noteT]
theorem isCom_note2 (P R : By) : isCom (P ++ (bra ++ (noteT ++ (ket ++ R)))) (P.length + 6) = true := by
  unfold isCom
  have : (P ++ (bra ++ (noteT ++ (ket ++ R)))).drop (P.length + 6 - 2) = [42, 47] ++ (ket ++ R) := by
    rw [show P.length + 6 - 2 = P.length + 4 by omega, ← List.drop_drop, at_len]; rfl
  rw [this]; simp
theorem spread_note (g : By) : spread g noteT = noteT := by simp [spread, noteT]
theorem blank_act (ways : By) (R : By) (k : Nat) (x : By) (hx : ActW x) (P out : By) (f : Nat) (hf : x.length + 2 ≤ f) :
    ∃ x', ActS x x' ∧ (125 : UInt8) ∉ x' ∧ (∀ c ∈ x', c ∈ x ∨ blank c = true) ∧ blankF (P ++ (bra ++ (x ++ (ket ++ R)))) ways f P.length false k out = blankF (P ++ (bra ++ (x ++ (ket ++ R)))) ways (f - (x.length + 2)) (P.length + (x.length + 4)) false (k + 1) (out ++ (bra ++ x' ++ ket)) := by
  obtain ⟨g1, hg1, e1⟩ : ∃ g1, g1 = (if isCom (P ++ (bra ++ (x ++ (ket ++ R)))) P.length then [] else gapB ways k) ∧ blankF (P ++ (bra ++ (x ++ (ket ++ R)))) ways f P.length false k out = blankF (P ++ (bra ++ (x ++ (ket ++ R)))) ways (f - 1) (P.length + 2) true (k + 1) (out ++ bra ++ g1) := by
    refine ⟨_, rfl, ?_⟩
    cases f with
    | zero => omega
    | succ f =>
      rw [blankF, if_neg (by simp [bra]), if_pos (by rw [at_len]; rfl)]
      rfl
  have hx125 : (125 : UInt8) ∉ x := by
    rcases hx with rfl | hx
    · decide
    · exact hx.2
  have e2 := blank_in ways (ket ++ R) (k + 1) x (P ++ bra) (out ++ bra ++ g1) (f - 1) hx125 (by omega)
  rw [show (P ++ bra) ++ (x ++ (ket ++ R)) = P ++ (bra ++ (x ++ (ket ++ R))) by simp, show (P ++ bra).length = P.length + 2 by simp [bra]] at e2
  obtain ⟨g2, hg2, e3⟩ : ∃ g2, g2 = (if isCom (P ++ (bra ++ (x ++ (ket ++ R)))) (P.length + 2 + x.length) then [] else gapB ways (k + 1)) ∧
      ∀ o, blankF (P ++ (bra ++ (x ++ (ket ++ R)))) ways (f - 1 - x.length) (P.length + 2 + x.length) true (k + 1) o = blankF (P ++ (bra ++ (x ++ (ket ++ R)))) ways (f - (x.length + 2)) (P.length + (x.length + 4)) false (k + 1) (o ++ g2 ++ ket) := by
    refine ⟨_, rfl, fun o => ?_⟩
    obtain ⟨n, hn⟩ : ∃ n, f - 1 - x.length = n + 1 := ⟨f - 1 - x.length - 1, by omega⟩
    have hd : (P ++ (bra ++ (x ++ (ket ++ R)))).drop (P.length + 2 + x.length) = ket ++ R := by
      rw [Nat.add_assoc, ← List.drop_drop, at_len, ← List.drop_drop]
      show ((x ++ (ket ++ R)).drop x.length) = _
      exact at_len _ _
    rw [hn, blankF, if_neg (by simp [bra, ket]; omega), if_neg (by simp), if_pos (by rw [hd]; rfl), show f - (x.length + 2) = n by omega, show P.length + (x.length + 4) = P.length + 2 + x.length + 2 by omega]
  rcases hx with rfl | hx
  · refine ⟨noteT, ⟨rfl, rfl⟩, by decide, fun c hc => .inl hc, ?_⟩
    rw [e1, e2, e3]
    have c1 := isCom_note P R
    have c2 := isCom_note2 P R
    rw [show P.length + 2 + noteT.length = P.length + 6 by simp [noteT]] at hg2
    rw [c1] at hg1
    rw [c2] at hg2
    simp only [if_true] at hg1 hg2
    rw [hg1, hg2, spread_note]
    simp
  · have b1 : allBl g1 := by
      rw [hg1]; split
      · intro x hx; cases hx
      · exact gap_bl _ _
    have b2 : allBl g2 := by
      rw [hg2]; split
      · intro x hx; cases hx
      · exact gap_bl _ _
    obtain ⟨a1, a2⟩ := act_spread (gapB ways (k + 1)) g1 g2 x (gap_bl _ _) b1 b2 hx
    refine ⟨_, a1, a2, fun c hc => ?_, ?_⟩
    · simp only [List.mem_append] at hc
      rcases hc with (hc | hc) | hc
      · exact .inr (b1 c hc)
      · exact spread_mem _ x (gap_bl _ _) c hc
      · exact .inr (b2 c hc)
    rw [e1, e2, e3]
    congr 1
    simp
/-- Texts that are valid, actions of small bytes. -/
def TkV : Tk → Prop
  | .txt x => Lib.validD x = true
  | .act x => ∀ c ∈ x, c.toNat < 128
theorem blank_small (c : UInt8) (h : blank c = true) : c.toNat < 128 := by
  unfold blank at h
  rcases of_decide_eq_true h with rfl | rfl | rfl <;> decide
/-- All of a source. -/
theorem blank_toks (ways : By) : ∀ (l : List Tk) (P out : By) (f k : Nat), goodT true l → (∀ x, .act x ∈ l → ActW x) → (render l).length ≤ f →
    blankF (P ++ render l) ways f P.length false k out = none ∨ ∃ m, TksS l m ∧ goodT true m ∧ ((∀ a ∈ l, TkV a) → ∀ a ∈ m, TkV a) ∧ blankF (P ++ render l) ways f P.length false k out = some (out ++ render m) := by
  intro l
  induction l with
  | nil =>
    intro P out f k _ _ _
    refine .inr ⟨[], trivial, trivial, fun h => h, ?_⟩
    cases f with
    | zero => simp [blankF, render]
    | succ f => rw [blankF, if_pos (by simp [render])]; simp [render]
  | cons a l ih =>
    intro P out f k hg hw hf
    cases a with
    | txt x =>
      obtain ⟨h1, h2, h3, h4⟩ := hg
      have hq : quiet x (render l) := by
        refine quiet_of x _ h2 ?_
        cases l with
        | nil => exact .inr rfl
        | cons b l =>
          cases b with
          | txt y => exact h3.elim
          | act y => exact .inl h3
      have hlen : x.length + (render l).length ≤ f := by simpa [render, Tk.ren] using hf
      rcases blank_txt ways (render l) k x P out f hq (by omega) with e | e
      · exact .inl (by simpa [render, Tk.ren] using e)
      · have := ih (P ++ x) (out ++ x) (f - x.length) k h4 (fun y hy => hw y (List.mem_cons_of_mem _ hy)) (by omega)
        rw [show P ++ x ++ render l = P ++ render (.txt x :: l) by simp [render, Tk.ren], show (P ++ x).length = P.length + x.length by simp] at this
        rw [show P ++ (x ++ render l) = P ++ render (.txt x :: l) by simp [render, Tk.ren]] at e
        rw [e]
        rcases this with e2 | ⟨m, g1, g2, gv, g3⟩
        · exact .inl e2
        · refine .inr ⟨.txt x :: m, ⟨rfl, g1⟩, ⟨h1, h2, ?_, g2⟩, fun hv a ha => ?_, by rw [g3]; simp [render, Tk.ren]⟩
          rotate_left
          · rcases List.mem_cons.1 ha with rfl | ha
            · exact hv _ (by simp)
            · exact gv (fun b hb => hv b (List.mem_cons_of_mem _ hb)) a ha
          cases l with
          | nil =>
            cases m with
            | nil => exact h3
            | cons b m => exact g1.elim
          | cons b l =>
            cases m with
            | nil => cases b <;> exact g1.elim
            | cons c m =>
              cases b with
              | txt y => exact h3.elim
              | act y =>
                cases c with
                | txt z => exact g1.1.elim
                | act z => exact h3
    | act x =>
      obtain ⟨h1, h4⟩ := hg
      have hlen : x.length + 4 + (render l).length ≤ f := by have := hf; simp [render, Tk.ren, bra, ket] at this; omega
      obtain ⟨x', a1, a2, av, a3⟩ := blank_act ways (render l) k x (hw x (by simp)) P out f (by omega)
      have hre : render (.act x :: l) = bra ++ (x ++ (ket ++ render l)) := by simp [render, Tk.ren]
      rw [hre, a3]
      have := ih (P ++ (bra ++ (x ++ ket))) (out ++ (bra ++ x' ++ ket)) (f - (x.length + 2)) (k + 1) h4 (fun y hy => hw y (List.mem_cons_of_mem _ hy)) (by omega)
      rw [show P ++ (bra ++ (x ++ ket)) ++ render l = P ++ (bra ++ (x ++ (ket ++ render l))) by simp, show (P ++ (bra ++ (x ++ ket))).length = P.length + (x.length + 4) by simp [bra, ket]] at this
      rcases this with e2 | ⟨m, g1, g2, gv, g3⟩
      · exact .inl e2
      · refine .inr ⟨.act x' :: m, ⟨a1, g1⟩, ⟨a2, g2⟩, fun hv a ha => ?_, by rw [g3]; simp [render, Tk.ren]⟩
        rcases List.mem_cons.1 ha with rfl | ha
        · intro c hc
          rcases av c hc with hc | hc
          · exact hv (.act x) (by simp) c hc
          · exact blank_small c hc
        · exact gv (fun b hb => hv b (List.mem_cons_of_mem _ hb)) a ha

/-! ### What is written between the brackets of a template -/
theorem kws_w : ActW kEnd ∧ ActW kElse ∧ (47 : UInt8) ∉ kCall ∧ (47 : UInt8) ∉ kIf ∧ (47 : UInt8) ∉ kRange ∧ (47 : UInt8) ∉ kDef := by
  refine ⟨.inr (by decide), .inr (by decide), by decide, by decide, by decide, by decide⟩
theorem way_w (root : Bool) (l : List By) (h : namesOk l = true) : (47 : UInt8) ∉ wayS root l := by
  intro hm
  rcases wayS_mem root l h _ hm with e | e | e
  · cases e
  · cases e
  · exact absurd e (by decide)
theorem lets_w (s : By) (h : lets s = true) : (47 : UInt8) ∉ s := fun hm => absurd ((lets_all s h).2 _ hm) (by decide)
theorem toks_w (l : Pt) : ∀ (fr after : Bool), l.form fr = true → ∀ x, Tk.act x ∈ l.toks after → ActW x := by
  obtain ⟨n1, n2, n3, n4, n5, n6, n7⟩ := kws_no
  obtain ⟨w1, w2, w3, w4, w5, w6⟩ := kws_w
  induction l with
  | nil => intro fr after _ x hx; cases hx
  | cons h k e r ihk ihe ihr =>
    intro fr after hf x hx
    simp only [Pt.form, Bool.and_eq_true] at hf
    obtain ⟨⟨hh, hke⟩, hr⟩ := hf
    rw [Pt.toks, List.mem_append] at hx
    rcases hx with hx | hx
    · unfold hdOk at hh
      by_cases h1 : h.kind = 1
      · rw [if_pos h1] at hx
        cases after
        · simp at hx
        · simp at hx; exact .inl hx
      rw [if_neg h1] at hh hx
      by_cases h2 : h.kind = 2
      · rw [if_pos h2] at hh hx
        simp only [Bool.and_eq_true] at hh
        obtain ⟨⟨⟨⟨a1, -⟩, -⟩, -⟩, -⟩ := hh
        simp at hx
        subst hx
        exact .inr ⟨way_w _ _ a1, (wayS_no _ _ a1).2⟩
      rw [if_neg h2] at hh hx
      by_cases h5 : h.kind = 5
      · rw [if_neg (by omega), if_pos h5] at hh
        rw [if_pos h5] at hx
        simp only [Bool.and_eq_true] at hh
        obtain ⟨⟨⟨⟨a1, -⟩, a3⟩, -⟩, -⟩ := hh
        simp at hx
        subst hx
        have q1 := way_w h.root _ a1
        have q2 := (wayS_no h.root _ a1).2
        have q3 := lets_w _ (nameOk_lets _ a3)
        have q4 := (lets_no _ (nameOk_lets _ a3)).2.1
        exact .inr ⟨by simp only [List.mem_append, List.mem_cons, not_or]; exact ⟨w3, by decide, q3, by decide, q1⟩, by simp only [List.mem_append, List.mem_cons, not_or]; exact ⟨n4, by decide, q4, by decide, q2⟩⟩
      rw [if_neg h5] at hx
      by_cases h3 : h.kind = 3 ∨ h.kind = 4
      · rw [if_pos h3] at hh hke hx
        simp only [Bool.and_eq_true] at hh hke
        obtain ⟨⟨a1, -⟩, -⟩ := hh
        have q1 := way_w h.root _ a1
        have q2 := (wayS_no h.root _ a1).2
        rcases List.mem_cons.1 hx with hx | hx
        · injection hx with hx
          subst hx
          refine .inr ⟨?_, ?_⟩
          · simp only [List.mem_append, List.mem_cons, not_or]
            exact ⟨by split <;> assumption, by decide, q1⟩
          · simp only [List.mem_append, List.mem_cons, not_or]
            exact ⟨by split <;> assumption, by decide, q2⟩
        · rcases List.mem_append.1 hx with hx | hx
          · exact ihk false false hke.1 x hx
          · rcases List.mem_append.1 hx with hx | hx
            · split at hx
              · cases hx
              · rcases List.mem_cons.1 hx with hx | hx
                · injection hx with hx; subst hx; exact w2
                · exact ihe false false hke.2 x hx
            · simp at hx; subst hx; exact w1
      · rw [if_neg h3] at hx; cases hx
    · exact ihr fr _ hr x hx
theorem tm_w (t : Tm) (h : t.check = 0) : ∀ x, Tk.act x ∈ t.toks → ActW x := by
  obtain ⟨h1, h2, -⟩ := check_ok t h
  obtain ⟨n1, n2, n3, n4, n5, n6, n7⟩ := kws_no
  obtain ⟨w1, w2, w3, w4, w5, w6⟩ := kws_w
  intro x hx
  unfold Tm.toks at hx
  rcases List.mem_append.1 hx with hx | hx
  · rw [List.mem_flatMap] at hx
    obtain ⟨d, hd, hx⟩ := hx
    obtain ⟨d1, d2⟩ := h2 d hd
    unfold defT at hx
    rcases List.mem_cons.1 hx with hx | hx
    · injection hx with hx
      subst hx
      exact .inr ⟨by simp only [List.mem_append, List.mem_cons, not_or]; exact ⟨w6, by decide, lets_w _ (nameOk_lets _ d1)⟩, by simp only [List.mem_append, List.mem_cons, not_or]; exact ⟨n7, by decide, (lets_no _ (nameOk_lets _ d1)).2.1⟩⟩
    · rcases List.mem_append.1 hx with hx | hx
      · exact toks_w d.kids false false d2 x hx
      · simp at hx; subst hx; exact w1
  · exact toks_w t.main true false h1 x hx
/-- What the statement makes of what is written of a template: it has closing brackets in a text, or it is read as that template, but for places. -/
theorem blanks_law (bad : By → Option Nat) (t : Tm) (h : t.check = 0) (ways : By) (f : Nat) (hf : t.src.length ≤ f) (hb : ∀ m, bad m = none) (o : By) (ho : blankF t.src ways f 0 false 0 [] = some o) (hl : o.length ≤ 16384) : (∃ m, ((∀ a ∈ t.toks, TkV a) → ∀ a ∈ m, TkV a) ∧ o = render m) ∧ ∃ u, parseB bad o = .ok u ∧ u.era = t.era := by
  have := blank_toks ways t.toks [] [] f 0 (goodT_tm t h) (tm_w t h) (by rw [render_tm]; exact hf)
  rw [List.nil_append, render_tm] at this
  rw [List.length_nil, ho] at this
  rcases this with e | ⟨m, h1, h2, h4, h3⟩
  · cases e
  · injection h3 with h3
    rw [List.nil_append] at h3
    subst h3
    exact ⟨⟨m, h4, rfl⟩, parse_blanks bad t h m h1 h2 hl (hb _)⟩
end Go.Proofs.YtdgcdjpjnhlihaaGreatDoor
set_option linter.unusedSimpArgs false
set_option linter.unusedVariables false
namespace Go.Proofs.YtdgcdjpjnhlihaaGreatDoor
open Go.Lib

theorem valid_render (m : List Tk) (h : ∀ a ∈ m, TkV a) : validD (render m) = true := by
  induction m with
  | nil => exact valid_ascii _ (fun b hb => by cases hb)
  | cons a m ih =>
    rw [render]
    refine valid_app ?_ (ih (fun b hb => h b (List.mem_cons_of_mem _ hb)))
    have := h a (by simp)
    cases a with
    | txt x => exact this
    | act x =>
      refine valid_tag (valid_ascii _ this)
theorem wd_small2 (c : UInt8) (h : wdB c = true) : c.toNat < 128 := wd_lt c h
theorem way_small (root : Bool) (l : List By) (h : namesOk l = true) : ∀ c ∈ wayS root l, c.toNat < 128 := by
  intro c hc
  rcases wayS_mem root l h c hc with rfl | rfl | e
  · decide
  · decide
  · exact wd_lt c e
theorem lets_small (s : By) (h : lets s = true) : ∀ c ∈ s, c.toNat < 128 := fun c hc => wd_lt c ((lets_all s h).2 c hc)
theorem kws_small : (∀ c ∈ kEnd, c.toNat < 128) ∧ (∀ c ∈ kElse, c.toNat < 128) ∧ (∀ c ∈ noteT, c.toNat < 128) ∧ (∀ c ∈ kCall, c.toNat < 128) ∧ (∀ c ∈ kIf, c.toNat < 128) ∧ (∀ c ∈ kRange, c.toNat < 128) ∧ (∀ c ∈ kDef, c.toNat < 128) := by decide
theorem small_app {a b : By} (ha : ∀ c ∈ a, c.toNat < 128) (hb : ∀ c ∈ b, c.toNat < 128) : ∀ c ∈ a ++ b, c.toNat < 128 := fun c hc => (List.mem_append.1 hc).elim (ha c) (hb c)
theorem small_cons {x : UInt8} {b : By} (hx : x.toNat < 128) (hb : ∀ c ∈ b, c.toNat < 128) : ∀ c ∈ x :: b, c.toNat < 128 := fun c hc => (List.mem_cons.1 hc).elim (fun e => e ▸ hx) (hb c)
theorem toks_v (l : Pt) : ∀ (fr after : Bool), l.form fr = true → ∀ a ∈ l.toks after, TkV a := by
  obtain ⟨n1, n2, n3, n4, n5, n6, n7⟩ := kws_small
  induction l with
  | nil => intro fr after _ a ha; cases ha
  | cons h k e r ihk ihe ihr =>
    intro fr after hf a ha
    simp only [Pt.form, Bool.and_eq_true] at hf
    obtain ⟨⟨hh, hke⟩, hr⟩ := hf
    rw [Pt.toks, List.mem_append] at ha
    rcases ha with hx | hx
    · unfold hdOk at hh
      by_cases h1 : h.kind = 1
      · rw [if_pos h1] at hx hh
        simp only [Bool.and_eq_true] at hh
        obtain ⟨⟨⟨⟨⟨a0, -⟩, -⟩, -⟩, -⟩, -⟩ := hh
        unfold mayB at a0
        simp only [Bool.and_eq_true] at a0
        have hv : TkV (.txt (bl h.text)) := a0.1.1.2
        cases after
        · simp at hx; subst hx; exact hv
        · simp at hx
          rcases hx with rfl | rfl
          · exact n3
          · exact hv
      rw [if_neg h1] at hh hx
      by_cases h2 : h.kind = 2
      · rw [if_pos h2] at hh hx
        simp only [Bool.and_eq_true] at hh
        obtain ⟨⟨⟨⟨a1, -⟩, -⟩, -⟩, -⟩ := hh
        simp at hx
        subst hx
        exact way_small _ _ a1
      rw [if_neg h2] at hh hx
      by_cases h5 : h.kind = 5
      · rw [if_neg (by omega), if_pos h5] at hh
        rw [if_pos h5] at hx
        simp only [Bool.and_eq_true] at hh
        obtain ⟨⟨⟨⟨a1, -⟩, a3⟩, -⟩, -⟩ := hh
        rw [List.mem_singleton] at hx
        subst hx
        exact small_app (small_app n4 (small_cons (by decide) (lets_small _ (nameOk_lets _ a3)))) (small_cons (by decide) (way_small _ _ a1))
      rw [if_neg h5] at hx
      by_cases h3 : h.kind = 3 ∨ h.kind = 4
      · rw [if_pos h3] at hh hke hx
        simp only [Bool.and_eq_true] at hh hke
        obtain ⟨⟨a1, -⟩, -⟩ := hh
        rcases List.mem_cons.1 hx with hx | hx
        · subst hx
          refine small_app ?_ (small_cons (by decide) (way_small _ _ a1))
          split <;> assumption
        · rcases List.mem_append.1 hx with hx | hx
          · exact ihk false false hke.1 a hx
          · rcases List.mem_append.1 hx with hx | hx
            · split at hx
              · cases hx
              · rcases List.mem_cons.1 hx with hx | hx
                · subst hx; exact n2
                · exact ihe false false hke.2 a hx
            · rw [List.mem_singleton] at hx; subst hx; exact n1
      · rw [if_neg h3] at hx; cases hx
    · exact ihr fr _ hr a hx
theorem tm_v (t : Tm) (h : t.check = 0) : ∀ a ∈ t.toks, TkV a := by
  obtain ⟨h1, h2, -⟩ := check_ok t h
  obtain ⟨n1, n2, n3, n4, n5, n6, n7⟩ := kws_small
  intro a ha
  unfold Tm.toks at ha
  rcases List.mem_append.1 ha with hx | hx
  · rw [List.mem_flatMap] at hx
    obtain ⟨d, hd, hx⟩ := hx
    obtain ⟨d1, d2⟩ := h2 d hd
    unfold defT at hx
    rcases List.mem_cons.1 hx with hx | hx
    · subst hx; exact small_app n7 (small_cons (by decide) (lets_small _ (nameOk_lets _ d1)))
    · rcases List.mem_append.1 hx with hx | hx
      · exact toks_v d.kids false false d2 a hx
      · rw [List.mem_singleton] at hx; subst hx; exact n1
  · exact toks_v t.main true false h1 a hx
/-- What the statement makes of what is written of a template. -/
theorem blanks_read (t : Tm) (h : t.check = 0) (ways : By) (f : Nat) (hf : t.src.length ≤ f) (o : By) (ho : blankF t.src ways f 0 false 0 [] = some o) (hl : o.length ≤ 16384) : validD o = true ∧ ∃ u, parseB (fun _ => none) o = .ok u ∧ u.era = t.era := by
  obtain ⟨⟨m, h1, rfl⟩, h2⟩ := blanks_law (fun _ => none) t h ways f hf (fun _ => rfl) o ho hl
  exact ⟨valid_render m (h1 (tm_v t h)), h2⟩
/-- A source's two bytes. -/
def twoOf (s : ByteArray) (i : Nat) : ByteArray := if i + 2 ≤ s.size then s.extract i (i + 2) else ⟨#[]⟩
theorem extract_bl (s : ByteArray) (i j : Nat) (h : j ≤ s.size) : bl (s.extract i j) = ((bl s).drop i).take (j - i) := by
  unfold bl
  simp [ByteArray.data_extract]
theorem two_iff (s : ByteArray) (i : Nat) (x : By) (hx : x.length = 2) : bl (twoOf s i) = x ↔ ((bl s).drop i).take 2 = x := by
  unfold twoOf
  split
  · rename_i h
    rw [extract_bl s i (i + 2) h, show i + 2 - i = 2 by omega]
  · rename_i h
    have hl : ((bl s).drop i).length < 2 := by rw [List.length_drop]; have : (bl s).length = s.size := rfl; omega
    constructor
    · intro e; rw [← e] at hx; simp [bl] at hx
    · intro e; have := congrArg List.length e; rw [List.length_take, hx] at this; omega
theorem blank_b1 {S ways : By} {f i k : Nat} {o : By} (hi : i < S.length) (h : (S.drop i).take 2 = bra) : blankF S ways (f + 1) i false k o = blankF S ways f (i + 2) true (k + 1) (o ++ bra ++ (if isCom S i then [] else gapB ways k)) := by
  rw [blankF, if_neg (by omega), if_pos (by rw [h]; rfl)]
theorem blank_k0 {S ways : By} {f i k : Nat} {o : By} (hi : i < S.length) (h : (S.drop i).take 2 = ket) : blankF S ways (f + 1) i false k o = none := by
  rw [blankF, if_neg (by omega), if_neg (by rw [h]; decide), if_neg (by simp), if_neg (by simp), if_pos h]
theorem blank_d0 {S ways : By} {f i k : Nat} {o : By} (hi : i < S.length) (h1 : ¬ (S.drop i).take 2 = bra) (h2 : ¬ (S.drop i).take 2 = ket) : blankF S ways (f + 1) i false k o = blankF S ways f (i + 1) false k (o ++ [S.getD i 0]) := by
  rw [blankF, if_neg (by omega), if_neg (by simp [h1]), if_neg (by simp), if_neg (by simp), if_neg h2]
theorem blank_k1 {S ways : By} {f i k : Nat} {o : By} (hi : i < S.length) (h : (S.drop i).take 2 = ket) : blankF S ways (f + 1) i true k o = blankF S ways f (i + 2) false k (o ++ (if isCom S i then [] else gapB ways k) ++ ket) := by
  rw [blankF, if_neg (by omega), if_neg (by simp), if_pos (by rw [h]; rfl)]
theorem blank_s1 {S ways : By} {f i k : Nat} {o : By} (hi : i < S.length) (h : ¬ (S.drop i).take 2 = ket) (h2 : S.getD i 0 = 32) : blankF S ways (f + 1) i true k o = blankF S ways f (i + 1) true k (o ++ 32 :: gapB ways k) := by
  rw [blankF, if_neg (by omega), if_neg (by simp), if_neg (by simp [h]), if_pos (by rw [h2]; rfl)]
theorem blank_d1 {S ways : By} {f i k : Nat} {o : By} (hi : i < S.length) (h : ¬ (S.drop i).take 2 = ket) (h2 : ¬ S.getD i 0 = 32) : blankF S ways (f + 1) i true k o = blankF S ways f (i + 1) true k (o ++ [S.getD i 0]) := by
  rw [blankF, if_neg (by omega), if_neg (by simp), if_neg (by simp [h]), if_neg (by rw [decide_eq_false h2]; decide), if_neg h]
theorem gap_len (ways : By) (k : Nat) : (gapB ways k).length ≤ 2 := by
  unfold gapB
  repeat' split
  all_goals simp
theorem take1_bl (s : ByteArray) (i : Nat) (h : i < s.size) : bl (s.extract i (i + 1)) = [(bl s).getD i 0] := by
  rw [extract_bl s i (i + 1) (by omega), show i + 1 - i = 1 by omega]
  have hl : i < (bl s).length := h
  rw [List.drop_eq_getElem_cons hl, List.take_succ_cons, List.take_zero, List.getD_eq_getElem?_getD, List.getElem?_eq_getElem hl]; rfl
theorem bl_app (a b : ByteArray) : bl (a ++ b) = bl a ++ bl b := by unfold bl; simp
end Go.Proofs.YtdgcdjpjnhlihaaGreatDoor
